/- Layer 8: GrphOrder as a whole. -/
import Derived.Test.YtmdbdbjaipcgeaaPL8c
namespace Go.G
open Go.Ab Go.Proofs Go.RowKit
set_option linter.unusedVariables false
set_option linter.unusedSimpArgs false
set_option maxRecDepth 100000

def a15 (z : Int) : Int := (andN z 15 : Nat)
theorem a15_lt (z : Int) : 0 ≤ a15 z ∧ a15 z < 16 := by have := andN_le z 15 (by decide); unfold a15; omega
def insF (zs : List Int) : List Int := (zs.take 20).map a15
theorem insF_in {zs : List Int} : ∀ z ∈ insF zs, 0 ≤ z ∧ z < 16 := by
  intro z hz
  obtain ⟨y, _, rfl⟩ := List.mem_map.1 hz
  exact a15_lt y
theorem insF_length (zs : List Int) : (insF zs).length = min 20 zs.length := by simp [insF]

theorem ord_ins {M0 : Store} {x0 : Value} {zs : List Int} (hx : LV iv Ty.int M0 x0 zs) {b7 b10 : Nat} (hb10 : M0.n ≤ b10) {Q : Value → Store → Prop}
    (hQ : ∀ M x8 x9, Up M0 M → NV iv Ty.int M0 M x8 (insF zs) → NV iv Ty.int M0 M x9 (unl (insF zs)) → Mp iv M b10 (setF (unl (insF zs))) → P_fettlelaw8_GrphOrder_3 (pp b7) x8 x9 (.map (some b10)) M Q) :
    ∀ (d i : Nat) (M : Store) (x8 x9 : Value) (acc : List Int), d + i = (insF zs).length → Up M0 M → NV iv Ty.int M0 M x8 ((insF zs).take i) → NV iv Ty.int M0 M x9 acc → Mp iv M b10 (setF acc) → unlA acc ((insF zs).drop i) = unl (insF zs) → acc.length ≤ i →
      (∀ c, bx x9 = some c → c < M.n) → (∀ c, bx x8 = some c → bx x9 ≠ some c) →
      P_fettlelaw8_GrphOrder_1 x0 (pp b7) x8 x9 (.map (some b10)) (iv i) M Q := by
  intro d
  have hil := insF_length zs
  induction d with
  | zero =>
    intro i M x8 x9 acc hi hu h8 h9 hm ha _ _ _
    apply T_fettlelaw8_GrphOrder_1
    unfold S_fettlelaw8_GrphOrder_1
    rw [List.drop_of_length_le (by omega)] at ha
    rw [List.take_of_length_le (by omega)] at h8
    simp only [unlA] at ha
    subst ha
    have fin := hQ M x8 x9 hu h8 h9 hm
    rw [(hx.up hu).len, OP_some, e_lss, BR_dec]
    split
    · rw [e_lss, BR_dec, if_neg (by omega)]; exact fin
    · exact fin
  | succ d ih =>
    intro i M x8 x9 acc hi hu h8 h9 hm ha hal hb9 hd
    apply T_fettlelaw8_GrphOrder_1
    unfold S_fettlelaw8_GrphOrder_1
    rw [(hx.up hu).len, OP_some, e_lss, BR_dec, if_pos (by omega), e_lss, BR_dec, if_pos (by omega)]
    apply T_fettlelaw8_GrphOrder_2
    unfold S_fettlelaw8_GrphOrder_2
    obtain ⟨p, h1, h2⟩ := (hx.up hu).at (i := i) (by omega) .i64
    have hel : (insF zs)[i]'(by omega) = a15 (zs[i]'(by omega)) := by simp [insF]
    have htk := List.take_succ_eq_append_getElem (l := insF zs) (i := i) (by omega)
    rw [List.drop_eq_getElem_cons (by omega), unlA] at ha
    rw [hel] at ha htk
    generalize zs[i]'(by omega) = z at *
    have ea := e_andN z 15 (by decide)
    simp only [Int.cast_ofNat_Int] at ea
    rw [h1, OP_some, h2, OP_some, ea, OP_some]
    show OP (bldL (iv 0) 1 1 [(0, iv (a15 z))]) _
    rw [bl_int, OP_some, LT_eq]
    have hl8 : ((insF zs).take i).length ≤ 20 := by simp; omega
    refine NV.app1 hu (Nat.le_refl _) hu.n h8 (a15 z) rfl (by omega) fun v8 M2 hu2 hN8 hc8 hb8 => ?_
    obtain ⟨b8, hb81, hb82, hb83⟩ := hb8
    have h92 := h9.fr hc8 fun c hc hk => hd c (bx_of_kil (mem_kl.1 hk)) hc
    have hm2 := hm.app h8 hc8
    show OP (lku (.int .i64) (.bool false) (.map (some b10)) (iv (a15 z)) false M2) _
    rw [hm2.look1 key_iv, OP_some, setF_get, e_not, BR_bool]
    split
    · rename_i hin
      have hin : a15 z ∉ acc := by simpa using hin
      rw [if_neg hin] at ha
      obtain ⟨M3, e3, hm3, hc3, hk3⟩ := hm2.put key_iv (a15 z) (one_tv true)
      show OP (mup (.int .i64) (.map (some b10)) (iv (a15 z)) (tv true) M2) _
      rw [e3, OP_some]
      show OP (bldL (iv 0) 1 1 [(0, iv (a15 z))]) _
      rw [bl_int, OP_some, LT_eq]
      have hu3 : Up M0 M3 := hu2.ch hc3 (by simpa using hb10)
      have h93 := Nw.keepI h92 hk3
      refine NV.app1 hu3 (Nat.le_refl _) hu3.n h93 (a15 z) rfl (by omega) fun v9 M5 hu5 hN9 hc9 hb9' => ?_
      obtain ⟨b9, hb91, hb92, hb93⟩ := hb9'
      rw [e_add, w64 (by omega) (by omega)]
      have h32 := hc3.n
      refine ih (i + 1) M5 v8 v9 (acc ++ [a15 z]) (by omega) hu5 ?_ hN9 ?_ ha (by simp; omega) (fun c hc => by rw [hb91] at hc; injection hc with hc; omega) fun c hc hc' => ?_
      · rw [htk]
        refine (Nw.keepI hN8 hk3).fr hc9 fun c hc hk => ?_
        rw [hb81] at hc; injection hc with hc
        have := hb9 c (bx_of_kil (mem_kl.1 hk))
        omega
      · rw [← setF_put]; exact hm3.app h93 hc9
      · rw [hb81] at hc; injection hc with hc
        rw [hb91] at hc'; injection hc' with hc'
        omega
    · rename_i hin
      have hin : a15 z ∈ acc := by simpa using hin
      rw [if_pos hin] at ha
      rw [e_add, w64 (by omega) (by omega)]
      have h22 := hc8.n
      refine ih (i + 1) M2 v8 x9 acc (by omega) hu2 (by rw [htk]; exact hN8) h92 hm2 ha (by omega) (fun c hc => by have := hb9 c hc; omega) fun c hc hc' => ?_
      rw [hb81] at hc; injection hc with hc
      have := hb9 c hc'
      omega

theorem cells_fn (f : Fn) (a b : Array Value) : (Value.func f a b).cells = #[Value.func f a b] := by kernel_rfl
theorem oc_fn (f : Fn) (a b : Array Value) : (Value.func f a b).oneCell' = true := by kernel_rfl

theorem ord_mid {M0 M : Store} (hu : Up M0 M) {b7 b10 : Nat} {es : Nat → List Int} (har : AR M0 b7 es) (hes : ∀ k, k < 16 → (es k).length ≤ 40 ∧ ∀ z ∈ es k, 0 ≤ z ∧ z < 16) {x8 x9 : Value} {ins : List Int} (hins : ∀ z ∈ ins, 0 ≤ z ∧ z < 16) (hil : ins.length ≤ 20)
    (h8 : NV iv Ty.int M0 M x8 ins) (h9 : NV iv Ty.int M0 M x9 (unl ins)) (hm : Mp iv M b10 (setF (unl ins))) {Q : Value → Store → Prop} (hQ : ∀ M', Q (tv true) M') : P_fettlelaw8_GrphOrder_3 (pp b7) x8 x9 (.map (some b10)) M Q := by
  apply T_fettlelaw8_GrphOrder_3
  unfold S_fettlelaw8_GrphOrder_3
  have hmk : mkF (.func F.fettlelaw8_GrphOrder_c1) [] [pp b7] = some (.func (.func F.fettlelaw8_GrphOrder_c1) #[] #[pp b7]) := rfl
  rw [hmk, OP_some]
  refine (Order_int_ok h8.lv (by omega) (fun z => es z.toNat) (fun M' hu' z hz => ?_) (fun z hz => ?_)).mono fun r M1 ⟨hu1, v, hr, hv⟩ => ?_
  · show R F.fettlelaw8_GrphOrder_c1 #[iv z, pp b7] M' _
    exact Order_c1_ok (har.up (hu.trans hu')) (hins z hz).1 (hins z hz).2
  · have := hins z hz
    have := (hes z.toNat (by omega)).1
    omega
  subst hr
  rw [tp2_0, OP_some, tp2_1, OP_some, LT_eq]
  have hlen := unl_length ins
  have hmem := unl_mem ins
  have ho2 := Ob.new M1 [.nilFunc] Ty.func_sl_int_sl_string
  have hup2 := Up.push M1 (some (.inl ([.nilFunc], Ty.func_sl_int_sl_string, true)))
  rw [ho2.st (by simp) (cells_fn _ _ _) (oc_fn _ _ _), OP_some]
  have ho3 := ho2.setSt ([Value.nilFunc].set 0 (.func (.func F.fettlelaw8_GrphOrder_c2) #[] #[]))
  have hup3 : Up M1 ((M1.push (some (.inl ([.nilFunc], Ty.func_sl_int_sl_string, true)))).set M1.n (some (.inl ([Value.nilFunc].set 0 (.func (.func F.fettlelaw8_GrphOrder_c2) #[] #[]), Ty.func_sl_int_sl_string, true)))) := hup2.ch (Ch.setO ho2 _) (by simp)
  generalize ((M1.push (some (.inl ([.nilFunc], Ty.func_sl_int_sl_string, true)))).set M1.n (some (.inl ([Value.nilFunc].set 0 (.func (.func F.fettlelaw8_GrphOrder_c2) #[] #[]), Ty.func_sl_int_sl_string, true)))) = M3 at *
  have ho3 : Ob M3 M1.n [.func (.func F.fettlelaw8_GrphOrder_c2) #[] #[]] Ty.func_sl_int_sl_string := ho3
  rw [ho3.ld (v := .func (.func F.fettlelaw8_GrphOrder_c2) #[] #[]) rfl, OP_some]
  show R F.fettlelaw8_GrphOrder_c2 #[x8] M3 _
  have u3 : Up M M3 := Ch.up hu1 hup3
  refine (letters_ok (h8.lv.up u3) (by omega) hins).mono fun t67 M4 ⟨hu4, h67⟩ => ?_
  have u4 : Up M M4 := Ch.up u3 hu4
  have ho4 := ho3.up hu4
  have har4 := har.up (Ch.up hu u4)
  have hmk3 : mkF (.func F.fettlelaw8_GrphOrder_c3) [] [pp M1.n, pp b7] = some (.func (.func F.fettlelaw8_GrphOrder_c3) #[] #[pp M1.n, pp b7]) := rfl
  rw [hmk3, OP_some]
  have hinj : ∀ x ∈ ins, ∀ y ∈ ins, letS x = letS y → x = y := fun x hx y hy h => letS_inj (hins x hx).1 (hins x hx).2 (hins y hy).1 (hins y hy).2 h
  refine (Order_string_ok h67.lv (by simp; omega) (fun s => (es (unlet s)).map letS) (fun M' hu' s hs => ?_) (fun s hs => ?_)).mono fun r5 M5 ⟨hu5, v5, hr5, hv5⟩ => ?_
  · obtain ⟨z, hz, rfl⟩ := List.mem_map.1 hs
    show R F.fettlelaw8_GrphOrder_c3 #[sv (letS z), pp M1.n, pp b7] M' _
    exact Order_c3_ok (har4.up hu') (ho4.up hu') hes (hins z hz).1 (hins z hz).2
  · obtain ⟨z, hz, rfl⟩ := List.mem_map.1 hs
    rw [unlet_letS (hins z hz).1 (hins z hz).2, List.length_map]
    have := hins z hz
    have := (hes z.toNat (by omega)).1
    omega
  subst hr5
  rw [tp2_0, OP_some, tp2_1, OP_some, LT_eq]
  have hlet : ordF (unl (ins.map letS)) (fun s => (es (unlet s)).map letS) (unl (ins.map letS)).length [] = (ordF (unl ins) (fun z => es z.toNat) (unl ins).length []).map (List.map letS) := by
    have e1 := unl_mapOn letS ins hinj
    rw [e1, List.length_map]
    refine ordF_mapOn letS (unl ins) (fun z => es z.toNat) (fun s => (es (unlet s)).map letS) (fun z => 0 ≤ z ∧ z < 16) (fun x y hx hy h => letS_inj hx.1 hx.2 hy.1 hy.2 h) (fun z hz => hins z ((hmem z).1 hz)) (fun z hz => ?_) (fun z hz y hy => ?_) _ [] (by simp)
    · rw [unlet_letS hz.1 hz.2]
    · exact (hes z.toNat (by omega)).2 y hy
  rw [hlet] at hv5 ⊢
  have u5 : Up M M5 := Ch.up u4 hu5
  have oc : OC M5 b7 b10 M1.n es (unl ins) x9 v (tv (ordF (unl ins) (fun z => es z.toNat) (unl ins).length []).isSome) v5 (tv ((ordF (unl ins) (fun z => es z.toNat) (unl ins).length []).map (List.map letS)).isSome) (ordF (unl ins) (fun z => es z.toNat) (unl ins).length []) :=
    { har := har4.up hu5, hes := hes, h9 := h9.lv.up u5, hon := fun z hz => hins z ((hmem z).1 hz), hol := by omega, has := hm.up u5,
      h13 := hv.lv.up (Ch.up hup3 (Ch.up hu4 hu5)), h14 := rfl, h15 := ho4.up hu5,
      h16 := by
        have := hv5.lv
        cases h : ordF (unl ins) (fun z => es z.toNat) (unl ins).length [] with
        | none => rw [h] at this; exact this
        | some d => rw [h] at this; exact this
      h17 := by rw [Option.isSome_map], hres := rfl }
  exact ord_want oc (Nat.le_refl _) hQ (unl ins).length _ _ [] (by simp) (Up.push _ _) (by
    have := Mp.new (En := iv) M5
    refine cast ?_ this
    congr 1) NV.nil (fun z hz => by cases hz) rfl

theorem GrphOrder_ok {M : Store} {x0 x1 : Value} {ts zs : List Int} (h0 : LV iv Ty.int M x0 ts) (hx : LV iv Ty.int M x1 zs) (r : Bool) : R F.fettlelaw8_GrphOrder #[x0, x1, tv r] M fun v _ => v = tv true := by
  refine R.cps fun Q hQ => ?_
  apply T_fettlelaw8_GrphOrder
  unfold S_fettlelaw8_GrphOrder
  refine (edges_ok hx r).mono fun w M1 ⟨hu1, hw⟩ => ?_
  rw [LT_eq]
  obtain ⟨M2, e2, hu2, har, _⟩ := hw.put
  rw [e2, OP_some, LT_eq]
  have u2 : Up M M2 := Ch.up hu1 hu2
  refine ord_ins (M0 := M2) (h0.up u2) (b7 := M1.n) (Nat.le_refl _) (fun M3 x8 x9 hu3 h8 h9 hm => ?_) (insF ts).length 0 _ _ _ [] rfl (Up.push _ _) NV.nil NV.nil ?_ (by simp [unl]) (Nat.le_refl _) (fun c hc => by cases hc) fun c hc => by cases hc
  · have hil := insF_length ts
    refine ord_mid hu3 har (fun k hk => ⟨Nat.le_trans (edF_length _ _ _) (by simp; omega), fun z hz => ?_⟩) insF_in (by omega) h8 h9 hm fun M' => hQ _ _ rfl
    obtain ⟨j, h1, h2, _⟩ := edF_in hz
    omega
  · have := Mp.new (En := iv) M2
    refine cast ?_ this
    congr 1

end Go.G
