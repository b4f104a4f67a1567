/- Layer 8: letters of numbers, and what is ahead of them. -/
import Derived.Test.YtmdbdbjaipcgeaaPL8a
import Derived.Test.YtmdbdbjaipcgeaaPE8t
namespace Go.G
open Go.Ab Go.Proofs Go.RowKit
set_option linter.unusedVariables false
set_option linter.unusedSimpArgs false
set_option maxRecDepth 100000

def letS (k : Int) : List UInt8 := [u8N (97 + k)]
theorem letS_nat {k : Int} (h0 : 0 ≤ k) (h1 : k < 16) : (u8N (97 + k)).toNat = 97 + k.toNat := by
  unfold u8N
  rw [UInt8.toNat_ofNat']
  omega
theorem bl_bvx (x : UInt8) (z : Value) : bldL (.int .u8 0) 1 1 [(0, bv x)] = some [bv x] := by kernel_rfl

theorem letters_loop {M0 : Store} {x0 : Value} {ks : List Int} (hx : LV iv Ty.int M0 x0 ks) (hl : ks.length ≤ 2 ^ 20) (hb : ∀ k ∈ ks, 0 ≤ k ∧ k < 16) {Q : Value → Store → Prop}
    (hQ : ∀ v M, Up M0 M → NV sv Ty.string M0 M v (ks.map letS) → Q v M) : ∀ (d i : Nat) (M : Store) (v : Value), d + i = ks.length → Up M0 M → NV sv Ty.string M0 M v ((ks.take i).map letS) →
      P_fettlelaw8_GrphOrder_c2_1 v x0 (iv ks.length) (iv i) M Q := by
  intro d
  induction d with
  | zero =>
    intro i M v hi hu hN
    apply T_fettlelaw8_GrphOrder_c2_1
    unfold S_fettlelaw8_GrphOrder_c2_1
    rw [e_lss, BR_dec, if_neg (by omega)]
    apply T_fettlelaw8_GrphOrder_c2_3
    rw [List.take_of_length_le (by omega)] at hN
    exact ⟨nts_of hN.sl, hQ _ _ hu hN⟩
  | succ d ih =>
    intro i M v hi hu hN
    apply T_fettlelaw8_GrphOrder_c2_1
    unfold S_fettlelaw8_GrphOrder_c2_1
    rw [e_lss, BR_dec, if_pos (by omega)]
    apply T_fettlelaw8_GrphOrder_c2_2
    unfold S_fettlelaw8_GrphOrder_c2_2
    obtain ⟨p, h1, h2⟩ := (hx.up hu).at (i := i) (by omega) .i64
    have hk := hb _ (List.getElem_mem (show i < ks.length by omega))
    have htk : (ks.take (i + 1)).map letS = (ks.take i).map letS ++ [letS (ks[i]'(by omega))] := by
      rw [List.take_succ_eq_append_getElem (by omega), List.map_append]; rfl
    generalize ks[i]'(by omega) = k at *
    rw [h1, OP_some, h2, OP_some, e_add, w64 (by omega) (by omega), cv_u8N, bl_bvx _ undef, OP_some, LT_eq]
    have hup := Up.push M (some (.inl ([bv (u8N (97 + k))], Ty.uint8, true)))
    have hB : B (M.push (some (.inl ([bv (u8N (97 + k))], Ty.uint8, true)))) (.slice (some ⟨M.n, 0, none⟩) 1 1) [u8N (97 + k)] := (Nw.lit (M0 := M) (n := 1) (Nat.le_refl _) rfl).sl
    rw [cvBS_ok hB, OP_some]
    show OP (bldL (.string ⟨#[]⟩) 1 1 [(0, sv (letS k))]) _
    rw [bl_string, OP_some, LT_eq]
    refine NV.app1 (Ch.up hu hup) (Nat.le_refl _) (Ch.up hu hup).n (Nw.up hN hup) (letS k) rfl (by simp; omega) fun v' M' hu' hN' _ _ => ?_
    rw [e_add, w64 (by omega) (by omega)]
    exact ih (i + 1) M' v' (by omega) hu' (by rw [htk]; exact hN')
theorem letters_ok {M : Store} {x0 : Value} {ks : List Int} (hx : LV iv Ty.int M x0 ks) (hl : ks.length ≤ 2 ^ 20) (hb : ∀ k ∈ ks, 0 ≤ k ∧ k < 16) :
    R F.fettlelaw8_GrphOrder_c2 #[x0] M fun v M' => Up M M' ∧ NV sv Ty.string M M' v (ks.map letS) := by
  apply T_fettlelaw8_GrphOrder_c2
  unfold S_fettlelaw8_GrphOrder_c2
  rw [hx.len, OP_some]
  exact letters_loop hx hl hb (fun v M' h1 h2 => ⟨h1, h2⟩) ks.length 0 M _ rfl (Ch.refl _ _) NV.nil

theorem Order_c1_ok {M : Store} {b : Nat} {es : Nat → List Int} (h : AR M b es) {z : Int} (h0 : 0 ≤ z) (h1 : z < 16) : R F.fettlelaw8_GrphOrder_c1 #[iv z, .pointer (some ⟨b, 0, none⟩)] M fun v M' => Up M M' ∧ LV iv Ty.int M' v (es z.toNat) := by
  apply T_fettlelaw8_GrphOrder_c1
  unfold S_fettlelaw8_GrphOrder_c1
  obtain ⟨w, g1, g2⟩ := h.at (k := z.toNat) (by omega)
  have e : z = (z.toNat : Int) := by omega
  rw [e, ixP_at (by omega), OP_some, Int.toNat_natCast, g1, OP_some]
  exact ⟨nts_of g2, Ch.refl _ _, g2⟩

def unlet (s : List UInt8) : Nat := (s.headD 0).toNat - 97
theorem unlet_letS {k : Int} (h0 : 0 ≤ k) (h1 : k < 16) : unlet (letS k) = k.toNat := by
  unfold unlet letS
  rw [List.headD_cons, letS_nat h0 h1]; omega
theorem letS_inj {j k : Int} (h0 : 0 ≤ j) (h1 : j < 16) (h2 : 0 ≤ k) (h3 : k < 16) (h : letS j = letS k) : j = k := by
  have := congrArg unlet h
  rw [unlet_letS h0 h1, unlet_letS h2 h3] at this; omega

theorem Order_c3_ok {M : Store} {b b15 : Nat} {es : Nat → List Int} (h : AR M b es) (h15 : Ob M b15 [.func (.func F.fettlelaw8_GrphOrder_c2) #[] #[]] Ty.func_sl_int_sl_string) (hes : ∀ k, k < 16 → (es k).length ≤ 40 ∧ ∀ z ∈ es k, 0 ≤ z ∧ z < 16) {k : Int} (h0 : 0 ≤ k) (h1 : k < 16) :
    R F.fettlelaw8_GrphOrder_c3 #[sv (letS k), .pointer (some ⟨b15, 0, none⟩), .pointer (some ⟨b, 0, none⟩)] M fun v M' => Up M M' ∧ LV sv Ty.string M' v ((es (unlet (letS k))).map letS) := by
  apply T_fettlelaw8_GrphOrder_c3
  unfold S_fettlelaw8_GrphOrder_c3
  rw [unlet_letS h0 h1]
  have hn := letS_nat h0 h1
  obtain ⟨w, g1, g2⟩ := h.at (k := k.toNat) (by omega)
  obtain ⟨g3, g4⟩ := hes k.toNat (by omega)
  have eix : ixS (sv (letS k)) (iv 0) = some (bv (u8N (97 + k))) := e_ixS (l := letS k) (i := 0) (by simp [letS])
  rw [e_lenS]
  show OP (binI .neq (iv 1) (iv 1)) _
  rw [e_neq, BR_dec, if_neg (by simp), eix, OP_some]
  unfold bv
  rw [e_lss, BR_dec, if_neg (by omega)]
  show OP (ixS (sv (letS k)) (iv 0)) _
  rw [eix, OP_some]
  unfold bv
  rw [e_gtr, BR_dec, if_neg (by omega), h15.ld (v := .func (.func F.fettlelaw8_GrphOrder_c2) #[] #[]) rfl, OP_some]
  show OP (ixS (sv (letS k)) (iv 0)) _
  rw [eix, OP_some]
  unfold bv
  have hw : IntKind.wrap .u8 (((u8N (97 + k)).toNat : Int) - 97) = (k.toNat : Int) := by
    rw [hn]
    simp [IntKind.wrap, IntKind.bits, IntKind.signed]; omega
  rw [e_sub, hw, ixP_at (by omega), OP_some, g1, OP_some]
  show R F.fettlelaw8_GrphOrder_c2 #[w] M _
  refine (letters_ok g2 (by omega) g4).mono fun v M1 ⟨hu1, hv⟩ => ?_
  exact ⟨hu1.tdx _ _ _, nts_of hv.sl, hu1, hv.lv⟩

end Go.G
