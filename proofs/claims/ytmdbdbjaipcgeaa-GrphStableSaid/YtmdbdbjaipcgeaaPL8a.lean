/- Layer 8: an order that is right already stays. -/
import Derived.Test.YtmdbdbjaipcgeaaPE8e
import Derived.Test.YtmdbdbjaipcgeaaPE8j
import Derived.Test.YtmdbdbjaipcgeaaPV8b
namespace Go.G
open Go.Ab Go.Proofs Go.RowKit
set_option linter.unusedVariables false
set_option linter.unusedSimpArgs false
set_option maxRecDepth 100000

theorem awake8_ok (M : Store) : R F.fettlelaw8_awake #[] M fun v M' => M' = M ∧ v = tv true := ⟨1, tv true, M, by kernel_rfl, rfl, rfl⟩

theorem Stable_c1_ok {M : Store} {b : Nat} {es : Nat → List Int} (h : AR M b es) (z : Int) : R F.fettlelaw8_GrphStable_c1 #[iv z, .pointer (some ⟨b, 0, none⟩)] M fun v M' => Up M M' ∧ LV iv Ty.int M' v (es (andN z 15)) := by
  apply T_fettlelaw8_GrphStable_c1
  unfold S_fettlelaw8_GrphStable_c1
  have ea := e_andN z 15 (by decide)
  have ha := andN_le z 15 (by decide)
  simp only [Int.cast_ofNat_Int] at ea
  obtain ⟨w, h1, h2⟩ := h.at (k := andN z 15) (by omega)
  rw [ea, OP_some, ixP_at (by omega), OP_some, h1, OP_some]
  exact ⟨nts_of h2, Ch.refl _ _, h2⟩

theorem Stable_loop {Mb : Store} {b : Nat} {es : Nat → List Int} (har : AR Mb b es) (hes : ∀ k, k < 16 → ∀ z ∈ es k, z < k) (hel : ∀ k, (es k).length ≤ 40) {m : Nat} (hm : m ≤ 15) {Q : Value → Store → Prop} (hQ : ∀ M', Q (tv true) M') :
    ∀ (d i : Nat) (M : Store) (x6 : Value), d + i = m → Up Mb M → NV iv Ty.int Mb M x6 (rgI i) → P_fettlelaw8_GrphStable_1 (iv m) (.pointer (some ⟨b, 0, none⟩)) x6 (iv i) M Q := by
  intro d
  induction d with
  | zero =>
    intro i M x6 hi hu hN
    apply T_fettlelaw8_GrphStable_1
    unfold S_fettlelaw8_GrphStable_1
    rw [e_lss, BR_dec, if_neg (by omega)]
    apply T_fettlelaw8_GrphStable_2
    unfold S_fettlelaw8_GrphStable_2
    have hi' : i = m := by omega
    subst hi'
    have hmk : mkF (.func F.fettlelaw8_GrphStable_c1) [] [.pointer (some ⟨b, 0, none⟩)] = some (.func (.func F.fettlelaw8_GrphStable_c1) #[] #[.pointer (some ⟨b, 0, none⟩)]) := rfl
    have hlen := rgI_length i
    rw [hmk, OP_some]
    refine (Order_int_ok hN.lv (by omega) (fun z => es (andN z 15)) (fun M' hu' z hz => ?_) (fun z _ => by have := hel (andN z 15); omega)).mono fun r M1 ⟨hu1, v, hr, hv⟩ => ?_
    · show R F.fettlelaw8_GrphStable_c1 #[iv z, .pointer (some ⟨b, 0, none⟩)] M' _
      exact Stable_c1_ok (har.up (hu.trans hu')) z
    · subst hr
      have ho := ordF_back i (fun z => es (andN z 15)) (fun k hk z hz => hes k (by omega) z (by rw [and15' (by omega)] at hz; exact hz)) i 0 (by omega)
      have hn0 : rgI 0 = [] := rfl
      rw [unl_self (rgI_nodup i), hlen] at hv ⊢
      rw [hn0] at ho
      rw [ho] at hv ⊢
      rw [tp2_0, OP_some, tp2_1, OP_some, BR_bool, if_pos (by rfl)]
      refine (SameInts_ok hv.lv (hN.lv.up hu1) (by simp only [Option.getD_some]; omega)).mono fun v2 M2 ⟨e1, e2⟩ => ?_
      subst e2
      rw [BR_bool, if_pos (by simp)]
      refine (awake8_ok M2).mono fun v3 M3 ⟨e3, e4⟩ => ?_
      subst e4
      exact ⟨rfl, hQ _⟩
  | succ d ih =>
    intro i M x6 hi hu hN
    apply T_fettlelaw8_GrphStable_1
    unfold S_fettlelaw8_GrphStable_1
    rw [e_lss, BR_dec, if_pos (by omega), bl_int, OP_some, LT_eq]
    refine NV.app1 hu (Nat.le_refl _) hu.n hN (i : Int) rfl (by rw [rgI_length]; omega) fun v' M' hu' hN' _ _ => ?_
    rw [e_add, w64 (by omega) (by omega)]
    exact ih (i + 1) M' v' (by omega) hu' (by rw [rgI_succ]; exact hN')

/-- A value of sixteen rows, laid. -/
theorem EdV.put {M : Store} {w : Value} {es : Nat → List Int} (h : EdV M w es) : ∃ M', st 16 (.pointer (some ⟨M.n, 0, none⟩)) w (M.push (some (.inl (nil16, Ty.a16_sl_int, true)))) = some M' ∧ Up M M' ∧ AR M' M.n es ∧ M'.n = M.n + 1 := by
  obtain ⟨vs, rfl, hl, hone, he⟩ := h
  have ho := Ob.new M nil16 Ty.a16_sl_int
  have hup := Up.push M (some (.inl (nil16, Ty.a16_sl_int, true)))
  refine ⟨_, ho.stA (s := 16) rfl hl hone, hup.ch (Ch.setO ho _) (by simp), ⟨vs, ho.setSt vs, hl, fun k hk => ?_⟩, by simp⟩
  exact ((he k hk).up hup).keep (by decide) ((Ch.setO ho _).keepT ho)

theorem GrphStable_ok {M : Store} {n : Int} {x1 : Value} {zs : List Int} (hx : LV iv Ty.int M x1 zs) : R F.fettlelaw8_GrphStable #[iv n, x1] M fun v _ => v = tv true := by
  refine R.cps fun Q hQ => ?_
  apply T_fettlelaw8_GrphStable
  unfold S_fettlelaw8_GrphStable
  have ea := e_andN n 15 (by decide)
  have ha := andN_le n 15 (by decide)
  simp only [Int.cast_ofNat_Int] at ea
  rw [ea, OP_some]
  refine (edges_ok hx false).mono fun w M1 ⟨hu1, hw⟩ => ?_
  rw [LT_eq]
  obtain ⟨M2, e2, hu2, har, _⟩ := hw.put
  rw [e2, OP_some]
  refine Stable_loop har (fun k hk z hz => ?_) (fun k => Nat.le_trans (edF_length _ _ _) (by simp; omega)) (by omega) (fun M' => hQ _ _ rfl) (andN n 15) 0 M2 _ rfl (Ch.refl _ _) NV.nil
  obtain ⟨j, _, h1, h2⟩ := edF_in hz
  rcases h2 with h2 | h2
  · cases h2
  · omega

end Go.G
