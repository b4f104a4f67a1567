/- SourOwn: values that are told are one's own, each time. -/
import Derived.Test.YtpacolplhcfamaaPY15e
import Derived.Test.YtpacolplhcfamaaPGFo
namespace Go.G
open Go.Ab Go.Proofs Go.RowKit
set_option linter.unusedVariables false
set_option linter.unusedSimpArgs false
set_option maxRecDepth 100000

/-- A byte of one's own is turned: all other bytes of one's own stay such, as many as they were. -/
theorem turnB {M2 M : Store} {v : Value} {t : List UInt8} (hu : Up M2 M) (h : N M2 M v t) {i : Nat} (hi : i < t.length) (c : UInt8) {K : Store → Prop}
    (hK : ∀ M', Up M2 M' → (∀ v' t', N M2 M v' t' → ∃ t'', N M2 M' v' t'' ∧ t''.length = t'.length) → Keep Ty.uint8 M M' → K M') : (OP (ixA 1 v (iv (i : Int))) fun p => OP (st 1 p (bv c) M) K) := by
  obtain ⟨h1, ⟨h2, _⟩ | ⟨b, cells, cp, rfl, hb, h6, h7, h8, h9⟩⟩ := h
  · omega
  · have e : ixA 1 (.slice (some ⟨b, 0, none⟩) t.length cp) (iv (i : Int)) = some (.pointer (some ⟨b, i, none⟩)) := by
      simp only [ixA, iv]; rw [if_pos ⟨by omega, by omega, trivial⟩]; simp
    have o6 : Ob M b cells Ty.uint8 := h6
    rw [e, OP_some]
    refine s_st1 (i := i) (b := b) (cells := cells) (T := Ty.uint8) o6 (by omega) rfl rfl fun M1 c1 o1 n1 => ?_
    refine hK M1 (hu.ch c1 (by simpa using hb)) ?_ (c1.keepT o6)
    rintro v' t' ⟨g1, g | ⟨b', cells', cp', rfl, gb, g6, g7, g8, g9⟩⟩
    · exact ⟨t', ⟨g1, .inl g⟩, rfl⟩
    · by_cases hbb : b' = b
      · subst hbb
        have hc : cells' = cells := by
          have h6' := h6
          rw [g6] at h6'
          injection h6' with h6'
          injection h6' with h6'
          injection h6' with h6'
        subst hc
        refine ⟨t'.set i c, ⟨by simp, .inr ⟨b', cells'.set i (bv c), cp', ?_, gb, o1, ?_, ?_, ?_⟩⟩, by simp⟩
        · rw [List.length_set]
        · rw [List.length_set, List.length_set]; exact g7
        · rw [List.map_set, List.length_set, List.take_set, g8]
        · rw [List.length_set]; exact g9
      · exact ⟨t', ⟨g1, .inr ⟨b', cells', cp', rfl, gb, c1.at g6 (by simpa using hbb), g7, g8, g9⟩⟩, rfl⟩
/-- Rows of one's own, whatever they hold. -/
def WkO (M2 : Store) (M : Store) (v : Value) (x : List UInt8) : Prop := ∃ t, N M2 M v t ∧ t.length ≤ 2 ^ 20
theorem wkO_next {M2 M M' : Store} {v : Value} {xs : List (List UInt8)} (h : NLs (WkO M2) Ty.sl_uint8 M2 M v xs) (hw : ∀ v' t', N M2 M v' t' → ∃ t'', N M2 M' v' t'' ∧ t''.length = t'.length) (hk : Keep Ty.uint8 M M') : NLs (WkO M2) Ty.sl_uint8 M2 M' v xs := by
  obtain ⟨vs, h1, h2⟩ := h
  exact ⟨vs, Nw.keep h1 (by decide) hk, h2.mono fun v x ⟨t, ht, hl⟩ => by obtain ⟨t', h', hl'⟩ := hw v t ht; exact ⟨t', h', by omega⟩⟩
theorem bvU (c : UInt8) (K : Value → Prop) : OP (binI .add (bv c) (.int .u8 1)) K = K (bv (UInt8.ofNat (c.toNat + 1))) := by
  unfold bv
  rw [e_add]
  have : IntKind.wrap .u8 ((c.toNat : Int) + 1) = ((UInt8.ofNat (c.toNat + 1)).toNat : Int) := by
    rw [← wrap_u8]; rfl
  rw [this]
theorem e_lit2o (z : Value) (a b : Option Addr) (n1 c1 n2 c2 : Nat) (K : List Value → Prop) : OP (bldL z 1 2 [(0, .slice a n1 c1), (1, .slice b n2 c2)]) K = K [.slice a n1 c1, .slice b n2 c2] := by kernel_rfl
theorem e_lit2i (z : Value) (a b : Int) (K : List Value → Prop) : OP (bldL z 1 2 [(0, .int .i64 a), (1, .int .i64 b)]) K = K [.int .i64 a, .int .i64 b] := by kernel_rfl
theorem e_litST (K : List Value → Prop) : OP (bldL (.string ⟨#[]⟩) 1 2 [(0, (.string ⟨#[115]⟩)), (1, (.string ⟨#[116]⟩))]) K = K [sv [115], sv [116]] := by kernel_rfl

section
variable {M2 : Store} {x0 x1 x7 x10 : Value} {xs : List (List UInt8)} {Q : Value → Store → Prop}
theorem so_inner {x12 x55 : Value} {n i : Nat} (hn : n ≤ 2 ^ 30) (hK : ∀ M, Up M2 M → NLs (WkO M2) Ty.sl_uint8 M2 M x55 xs → P_fettlelaw15_SourOwn_6 x0 x1 x7 x10 x55 (nv xs.length) (nv i) M Q) :
    ∀ (k j : Nat) (M : Store), k + j = n → Up M2 M → NLs (WkO M2) Ty.sl_uint8 M2 M x55 xs → (∃ t, N M2 M x12 t ∧ t.length = n) → P_fettlelaw15_SourOwn_4 x0 x1 x7 x10 x12 x55 (nv xs.length) (nv i) (nv n) (nv j) M Q := by
  intro k
  induction k with
  | zero =>
    intro j M hj hu hN ht
    apply T_fettlelaw15_SourOwn_4
    unfold S_fettlelaw15_SourOwn_4
    rw [lss_n, BR_dec, if_neg (by omega)]
    exact hK M hu hN
  | succ k ih =>
    intro j M hj hu hN ht
    obtain ⟨t, ht, hl⟩ := ht
    apply T_fettlelaw15_SourOwn_4
    unfold S_fettlelaw15_SourOwn_4
    rw [lss_n, BR_dec, if_pos (by omega), by_ld ht.by (by omega), bvU]
    refine turnB hu ht (i := j) (by omega) _ fun M' hu' hw hk => ?_
    rw [add1_n _ (by omega)]
    obtain ⟨t', h', hl'⟩ := hw _ _ ht
    exact ih (j + 1) M' (by omega) hu' (wkO_next hN hw hk) ⟨t', h', by omega⟩
theorem so_outer {x55 : Value} (hx : xs.length ≤ 8) (hK : ∀ M, Up M2 M → P_fettlelaw15_SourOwn_5 x0 x1 x7 x10 M Q) :
    ∀ (k i : Nat) (M : Store), k + i = xs.length → Up M2 M → NLs (WkO M2) Ty.sl_uint8 M2 M x55 xs → P_fettlelaw15_SourOwn_3 x0 x1 x7 x10 x55 (nv xs.length) (nv i) M Q := by
  intro k
  induction k with
  | zero =>
    intro i M hi hu hN
    apply T_fettlelaw15_SourOwn_3
    unfold S_fettlelaw15_SourOwn_3
    rw [lss_n, BR_dec, if_neg (by omega)]
    exact hK M hu
  | succ k ih =>
    intro i M hi hu hN
    have hil : i < xs.length := by omega
    apply T_fettlelaw15_SourOwn_3
    unfold S_fettlelaw15_SourOwn_3
    rw [lss_n, BR_dec, if_pos hil]
    obtain ⟨p, w, e1, e2, t, ht, hl⟩ := hN.ls.at hil .i64
    rw [e1, OP_some, e2, OP_some, by_len ht.by]
    refine so_inner (n := t.length) (i := i) (by omega) (fun M' hu' hN' => ?_) t.length 0 M rfl hu hN ⟨t, ht, rfl⟩
    apply T_fettlelaw15_SourOwn_6
    unfold S_fettlelaw15_SourOwn_6
    rw [add1_n _ (by omega)]
    exact ih (i + 1) M' (by omega) hu' hN'
theorem so_ints {x14 : Value} {n : Nat} (hn : n ≤ 2 ^ 30) (hK : ∀ M, Up M2 M → P_fettlelaw15_SourOwn_8 x0 x1 x7 x10 M Q) :
    ∀ (k j : Nat) (M : Store) (cs : List Value), k + j = n → Up M2 M → Nw 1 Ty.int M2 M x14 n cs → P_fettlelaw15_SourOwn_7 x0 x1 x7 x10 x14 (nv n) (nv j) M Q := by
  intro k
  induction k with
  | zero =>
    intro j M cs hj hu hN
    apply T_fettlelaw15_SourOwn_7
    unfold S_fettlelaw15_SourOwn_7
    rw [lss_n, BR_dec, if_neg (by omega)]
    exact hK M hu
  | succ k ih =>
    intro j M cs hj hu hN
    apply T_fettlelaw15_SourOwn_7
    unfold S_fettlelaw15_SourOwn_7
    rw [lss_n, BR_dec, if_pos (by omega)]
    obtain ⟨p, M', b, e1, e2, e3, hN', _, hb1, hb2, c⟩ := Nw.put1 hN (show j < n by omega) .i64 (w := iv (-1)) (cells_iv _) (oc_iv _)
    rw [e1, OP_some]
    have e3 : st 1 p (.int .i64 (-1)) M = some M' := e3
    rw [e3, OP_some, add1_n _ (by omega)]
    exact ih (j + 1) M' _ (by omega) (hu.ch c (by simpa using hb1)) hN'
end
abbrev flST (a b : List UInt8) : Fl := putF (putF (fun _ => none) [115] a 1) [116] b 2
theorem it8 {a b : List UInt8} (ha : a.length ≤ 256) (hb : b.length ≤ 256) : itS (flST a b) madeP 8 (RSt.new [[115], [116]]) = ⟨[[115], [116]], true, 2, [a, b], [1, 2], true, 1⟩ := by
  have p1 : madeP [115] = false := by decide
  have p2 : madeP [116] = false := by decide
  have f1 : flST a b [115] = some (a, 1) := by unfold flST putF; rw [if_neg (by decide), if_pos rfl]
  have f2 : flST a b [116] = some (b, 2) := by unfold flST putF; rw [if_pos rfl]
  have s1 : (stepS (flST a b) madeP (RSt.new [[115], [116]])).1 = ⟨[[115], [116]], false, 1, [a], [1], false, 0⟩ := by
    simp [stepS, RSt.new, readS, f1, valS, p1, RSt.more, show ¬ 256 < a.length by omega]
  have s2 : (stepS (flST a b) madeP ⟨[[115], [116]], false, 1, [a], [1], false, 0⟩).1 = ⟨[[115], [116]], true, 0, [a, b], [1, 2], false, 0⟩ := by
    simp [stepS, readS, f2, valS, p2, RSt.more, show ¬ 256 < b.length by omega]
  have s3 : (stepS (flST a b) madeP ⟨[[115], [116]], true, 0, [a, b], [1, 2], false, 0⟩).1 = ⟨[[115], [116]], true, 1, [a, b], [1, 2], false, 0⟩ := by
    simp [stepS, lookS, f1]
  have s4 : (stepS (flST a b) madeP ⟨[[115], [116]], true, 1, [a, b], [1, 2], false, 0⟩).1 = ⟨[[115], [116]], true, 2, [a, b], [1, 2], true, 1⟩ := by
    simp [stepS, lookS, f2, RSt.end]
  have s5 : (stepS (flST a b) madeP ⟨[[115], [116]], true, 2, [a, b], [1, 2], true, 1⟩).1 = ⟨[[115], [116]], true, 2, [a, b], [1, 2], true, 1⟩ := by
    simp [stepS]
  simp only [itS, s1, s2, s3, s4, s5]
section
variable {M0 : Store} {x0 x1 : Value} {bf r room U last : Nat} {fl : Fl} {br : Nat} {Q : Value → Store → Prop}
theorem so_steps {L : List (List UInt8)} (hL : L.length < 2 ^ 27) (hn : ∀ s ∈ L, nameOk s)
    (hK : ∀ M st O, Up M0 M → FSR M0 M bf r room U last fl → RdrR M0 M br mvF st O → (∃ st0, st = itS fl madeP 8 st0 ∧ st0 = RSt.new L) → P_fettlelaw15_SourOwn_2 x0 x1 (pB br) M Q) :
    ∀ (k i : Nat) (M : Store) (st : RSt) (O : List Nat), k + i = 8 → Up M0 M → FSR M0 M bf r room U last fl → RdrR M0 M br mvF st O → st.L = L → itS fl madeP k st = itS fl madeP 8 (RSt.new L) → P_fettlelaw15_SourOwn_1 x0 x1 (pB bf) (pB br) (nv i) M Q := by
  intro k
  induction k with
  | zero =>
    intro i M st O hi hu hf h hst hit
    apply T_fettlelaw15_SourOwn_1
    unfold S_fettlelaw15_SourOwn_1
    rw [lss_l 8 8 rfl, BR_dec, if_neg (by omega)]
    exact hK M st O hu hf h ⟨_, hit, rfl⟩
  | succ k ih =>
    intro i M st O hi hu hf h hst hit
    apply T_fettlelaw15_SourOwn_1
    unfold S_fettlelaw15_SourOwn_1
    rw [lss_l 8 8 rfl, BR_dec, if_pos (by omega)]
    refine (Step_ok hu hf h (by rw [hst]; exact hL) (made_ok _) (by rw [hst]; exact hn)).mono fun v M' ⟨e, hu', hf', c, O', h', hO⟩ => ?_
    rw [add1_n _ (by omega)]
    exact ih (i + 1) M' _ O' (by omega) hu' hf' h' (by rw [stepS_L, hst]) hit
end
theorem SourOwn_ok {M : Store} {x0 x1 : Value} {a b : List UInt8} (h0 : B M x0 a) (h1 : B M x1 b) : R F.fettlelaw15_SourOwn #[x0, x1] M fun v M' => v = tv true := by
  refine R.cps fun Q hQ => ?_
  have hQ : ∀ M, Q (tv true) M := fun M => hQ _ _ rfl
  apply T_fettlelaw15_SourOwn
  unfold S_fettlelaw15_SourOwn
  rw [by_len h0, gtr_l 256 256 rfl, BR_dec]
  split
  · exact awake15_ok ⟨rfl, hQ _⟩
  rename_i ha
  rw [by_len h1, gtr_l 256 256 rfl, BR_dec]
  split
  · exact awake15_ok ⟨rfl, hQ _⟩
  rename_i hb
  refine (New_ok (room := 10000) (by decide)).mono fun v M1 ⟨u1, bf, r, e, hf1⟩ => ?_
  subst e
  rw [abin_ptr U.p_simf_FS, BR_bool, if_neg (by decide)]
  refine (Put_ok u1 hf1 name_s (Sl.up h0 u1) (by omega) (by omega) (by decide) (by decide)).mono fun v M2 ⟨u2, _, _, hf2⟩ => ?_
  refine (Put_ok u2 hf2 name_t (Sl.up h1 u2) (by omega) (by omega) (by decide) (by decide)).mono fun v M3 ⟨u3, _, _, hf3⟩ => ?_
  rw [e_litST]
  refine s_lit (s := 1) (n := 2) rfl fun M4 u4 hN4 o4 n4 => ?_
  refine (NewR_ok (L := [[115], [116]]) hN4.sl (by decide) F.fettlelaw15_made).mono fun v M5 ⟨u5, br, e, hR⟩ => ?_
  subst e
  rw [abin_ptr U.p_sour_Read, BR_bool, if_neg (by decide)]
  have e6 : ixA 1 (.slice (some ⟨M3.n, 0, none⟩) 2 2) (.int .i64 0) = some (.pointer (some ⟨M3.n, 0, none⟩)) := rfl
  rw [e6, OP_some]
  refine s_st1 (i := 0) (w := sv [122, 122]) (o4.up u5) (by simp) (cells_sv _) (oc_sv _) fun M6 c6 o6 _ => ?_
  have u34 := u3.trans u4
  have u35 := u34.trans u5
  have u6 : Up M M6 := u35.ch c6 fun b hb => by simp at hb; subst hb; exact u3.n
  have hf5 := (hf3.up u4).up u5
  have hf6 : FSR M M6 bf r 10000 _ _ _ := hf5.keep (by decide) (by decide) (c6.keepT (o4.up u5))
  have hR6 := (hR [M3.n] M6 (fun b hb => by simp at hb; omega) c6).base (M0 := M) u34.n
  refine so_steps (L := [[115], [116]]) (by decide) (fun s hs => by simp at hs; rcases hs with rfl | rfl; exact name_s; exact name_t) (fun M7 st O u7 hf7 hR7 ⟨st0, e1, e2⟩ => ?_) 8 0 M6 _ [br] rfl u6 hf6 hR6 rfl rfl
  subst e2
  rw [it8 (by omega) (by omega)] at e1
  subst e1
  apply T_fettlelaw15_SourOwn_2
  unfold S_fettlelaw15_SourOwn_2
  refine (Values_ok hR7 (by simp) (fun x hx => by simp at hx; rcases hx with rfl | rfl <;> omega) ⟨rfl, rfl⟩).mono fun v M8 ⟨w, e, u8, hN8⟩ => ?_
  subst e
  rw [(tp2 _ _).1, (tp2 _ _).2, hN8.ls.lenV, OP_some]
  have hW8 : NLs (WkO M7) Ty.sl_uint8 M7 M8 w [a, b] := by
    obtain ⟨vs, g1, g2⟩ := hN8
    obtain ⟨v1, rest⟩ := vs
    · simp [Each] at g2
    · rename_i v1 rest
      cases rest with
      | nil => simp [Each] at g2
      | cons v2 rest =>
        obtain ⟨g3, g4, g5⟩ := g2
        exact ⟨v1 :: v2 :: rest, g1, ⟨a, g3, by omega⟩, ⟨b, g4, by omega⟩, by cases rest with
          | nil => trivial
          | cons _ _ => exact g5.elim⟩
  refine so_outer (M2 := M7) (xs := [a, b]) (by simp) (fun M9 u9 => ?_) 2 0 M8 rfl u8 hW8
  apply T_fettlelaw15_SourOwn_5
  unfold S_fettlelaw15_SourOwn_5
  have hR9 := hR7.up u9
  refine (Stamps_ok hR9 (by simp) ⟨rfl, rfl⟩).mono fun v M10 ⟨u10, hN10⟩ => ?_
  rw [(NV.lv hN10).len, OP_some]
  refine so_ints (M2 := M9) (n := 2) (by decide) (fun M11 u11 => ?_) 2 0 M10 _ rfl u10 hN10
  apply T_fettlelaw15_SourOwn_8
  unfold S_fettlelaw15_SourOwn_8
  have hR11 := hR9.up u11
  refine (Values_ok hR11 (by simp) (fun x hx => by simp at hx; rcases hx with rfl | rfl <;> omega) ⟨rfl, rfl⟩).mono fun v M12 ⟨w2, e, u12, hN12⟩ => ?_
  subst e
  rw [(tp2 _ _).1, (tp2 _ _).2, BR_bool, if_pos rfl, BR_bool, if_pos rfl]
  have u0 : Up M M12 := ((u7.trans u9).trans u11).trans u12
  have h0' := Sl.up h0 u0
  have h1' := Sl.up h1 u0
  obtain ⟨ya, yc, rfl⟩ := h0'.slice
  obtain ⟨za, zc, rfl⟩ := h1'.slice
  rw [e_lit2o]
  refine s_lit (s := 1) (n := 2) rfl fun M13 u13 hN13 o13 n13 => ?_
  have hB13 : BB M13 (.slice (some ⟨M12.n, 0, none⟩) 2 2) [a, b] := ⟨_, hN13.sl, Sl.up h0' u13, Sl.up h1' u13, trivial⟩
  have hB12 : BB M13 w2 [a, b] := by
    obtain ⟨vs, g1, g2⟩ := hN12
    exact ⟨vs, Sl.up g1.sl u13, g2.mono fun v x h => Sl.up (Nw.sl h) u13⟩
  refine (Same_ok hB12 hB13 (by simp) (by simp)).mono fun v M14 ⟨e1, e2⟩ => ?_
  subst e1; subst e2
  rw [BR_dec, if_pos rfl]
  refine (Stamps_ok ((hR11.up u12).up u13) (by simp) ⟨rfl, rfl⟩).mono fun v M15 ⟨u15, hN15⟩ => ?_
  rw [e_lit2i]
  refine s_lit (s := 1) (n := 2) rfl fun M16 u16 hN16 o16 n16 => ?_
  refine (SameN_ok (l := [1, 2]) (k := [1, 2]) ((NV.lv hN15).up u16) hN16.sl (by simp)).mono fun v M17 ⟨e1, e2⟩ => ?_
  subst e1; subst e2
  rw [BR_dec, if_pos rfl]
  exact awake15_ok ⟨rfl, hQ _⟩
end Go.G
