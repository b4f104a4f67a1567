/- Layer 8: edges of numbers. -/
import Derived.Test.YtnonfejhkbaikaaPE8n
import Derived.Test.YtnonfejhkbaikaaPN0
namespace Go.G
open Go.Ab Go.Proofs Go.RowKit
set_option linter.unusedVariables false
set_option linter.unusedSimpArgs false
set_option maxRecDepth 100000

/-- What is ahead of a thing, of numbers. -/
def edF (zs : List Int) (r : Bool) (k : Nat) : List Int := zs.filterMap fun z => if andN z 15 = k ∧ (r = true ∨ andN (shrN z 4) 15 < andN z 15) then some ((andN (shrN z 4) 15 : Nat) : Int) else none
theorem edF_length (zs : List Int) (r : Bool) (k : Nat) : (edF zs r k).length ≤ zs.length := List.length_filterMap_le _ _
theorem edF_in {zs : List Int} {r : Bool} {k : Nat} {z : Int} (h : z ∈ edF zs r k) : ∃ j : Nat, j < 16 ∧ z = j ∧ (r = true ∨ j < k) := by
  obtain ⟨y, _, h⟩ := List.mem_filterMap.1 h
  split at h
  · rename_i h2
    injection h with h
    obtain ⟨h3, h4⟩ := h2
    refine ⟨_, ?_, h.symm, h3 ▸ h4⟩
    have := andN_le (shrN y 4) 15 (by decide); omega
  · cases h
/-- Sixteen rows of numbers. -/
def AR (M : Store) (b : Nat) (es : Nat → List Int) : Prop := ∃ vs, Ob M b vs Ty.a16_sl_int ∧ vs.length = 16 ∧ ∀ k, k < 16 → LV iv Ty.int M (vs.getD k undef) (es k)
theorem AR.up {M M' : Store} {b : Nat} {es : Nat → List Int} (h : AR M b es) (k : Up M M') : AR M' b es := by
  obtain ⟨vs, h1, h2, h3⟩ := h; exact ⟨vs, h1.up k, h2, fun j hj => (h3 j hj).up k⟩
theorem AR.at {M : Store} {b : Nat} {es : Nat → List Int} (h : AR M b es) {k : Nat} (hk : k < 16) : ∃ w, ld 1 false (.pointer (some ⟨b, k, none⟩)) M = some w ∧ LV iv Ty.int M w (es k) := by
  obtain ⟨vs, h1, h2, h3⟩ := h
  refine ⟨_, h1.ld (v := vs.getD k undef) ?_, h3 k hk⟩
  rw [List.getD_eq_getElem?_getD, List.getElem?_eq_getElem (by omega)]; rfl

abbrev nil16 : List Value := [(.slice none 0 0), (.slice none 0 0), (.slice none 0 0), (.slice none 0 0), (.slice none 0 0), (.slice none 0 0), (.slice none 0 0), (.slice none 0 0), (.slice none 0 0), (.slice none 0 0), (.slice none 0 0), (.slice none 0 0), (.slice none 0 0), (.slice none 0 0), (.slice none 0 0), (.slice none 0 0)]

/-- A value of sixteen rows. -/
def EdN (Mb M : Store) (w : Value) (es : Nat → List Int) : Prop := ∃ vs : List Value, w = .agg vs.toArray ∧ vs.length = 16 ∧ vs.all (·.oneCell') = true ∧ ∀ k, k < 16 → NV iv Ty.int Mb M (vs.getD k undef) (es k)

theorem edges_end {M0 M : Store} (hu : Up M0 M) {b4 b5 : Nat} (h45 : b4 ≠ b5) (h4 : M0.n ≤ b4) {c4 vs : List Value} (ho4 : Ob M b4 c4 Ty.a16_sl_int) (hl4 : c4.length = 16) (ho5 : Ob M b5 vs Ty.a16_sl_int) (hl5 : vs.length = 16) (hone : vs.all (·.oneCell') = true)
    {es : Nat → List Int} (he : ∀ k, k < 16 → NV iv Ty.int M0 M (vs.getD k undef) (es k)) {Q : Value → Store → Prop} (hQ : ∀ w M', Up M0 M' → EdN M0 M' w es → Q w M') :
    P_fettlelaw8_edges_3 (.pointer (some ⟨b4, 0, none⟩)) (.pointer (some ⟨b5, 0, none⟩)) M Q := by
  apply T_fettlelaw8_edges_3
  unfold S_fettlelaw8_edges_3
  rw [ho5.ldA hl5, OP_some, ho4.stA hl4 hl5 hone, OP_some, (ho4.setSt vs).ldA hl5, OP_some]
  have hc := Ch.setO ho4 (some (.inl (vs, Ty.a16_sl_int, true)))
  refine ⟨rfl, hQ _ _ (hu.ch hc (by simpa using h4)) ⟨vs, rfl, hl5, hone, fun k hk => Nw.keep (he k hk) (by decide) (hc.keepT ho4)⟩⟩

theorem edF_snoc (zs : List Int) (z : Int) (r : Bool) (k : Nat) : edF (zs ++ [z]) r k = edF zs r k ++ (if andN z 15 = k ∧ (r = true ∨ andN (shrN z 4) 15 < andN z 15) then [((andN (shrN z 4) 15 : Nat) : Int)] else []) := by
  unfold edF
  rw [List.filterMap_append]
  congr 1
  by_cases h : andN z 15 = k ∧ (r = true ∨ andN (shrN z 4) 15 < andN z 15)
  · rw [if_pos h, List.filterMap_cons, if_pos h]; rfl
  · rw [if_neg h, List.filterMap_cons, if_neg h]; rfl

theorem edges_loop {M0 : Store} {x0 : Value} {zs : List Int} (hx : LV iv Ty.int M0 x0 zs) {r : Bool} {b4 b5 : Nat} (h45 : b4 ≠ b5) (h4 : M0.n ≤ b4) (h5 : M0.n ≤ b5) {c4 : List Value} (hl4 : c4.length = 16)
    {Q : Value → Store → Prop} (hQ : ∀ w M', Up M0 M' → EdN M0 M' w (edF (zs.take 40) r) → Q w M') :
    ∀ (d i : Nat) (M : Store) (vs : List Value), d + i = min zs.length 40 → Up M0 M → Ob M b4 c4 Ty.a16_sl_int → Ob M b5 vs Ty.a16_sl_int → vs.length = 16 → vs.all (·.oneCell') = true →
      (∀ k, k < 16 → NV iv Ty.int M0 M (vs.getD k undef) (edF (zs.take i) r k)) → (∀ k c, k < 16 → bx (vs.getD k undef) = some c → c < M.n) → (∀ j k c, j < 16 → k < 16 → j ≠ k → bx (vs.getD j undef) = some c → bx (vs.getD k undef) ≠ some c) →
      P_fettlelaw8_edges_1 x0 (tv r) (.pointer (some ⟨b4, 0, none⟩)) (.pointer (some ⟨b5, 0, none⟩)) (iv i) M Q := by
  intro d
  induction d with
  | zero =>
    intro i M vs hi hu ho4 ho5 hl5 hone he hb hd
    apply T_fettlelaw8_edges_1
    unfold S_fettlelaw8_edges_1
    have htk : zs.take i = zs.take 40 := by
      rcases Nat.le_total zs.length 40 with h | h
      · rw [List.take_of_length_le (by omega), List.take_of_length_le h]
      · congr 1; omega
    rw [htk] at he
    have fin := edges_end hu h45 h4 ho4 hl4 ho5 hl5 hone (fun k hk => he k hk) hQ
    rw [(hx.up hu).len, OP_some, e_lss, BR_dec]
    split
    · rw [e_lss, BR_dec, if_neg (by omega)]; exact fin
    · exact fin
  | succ d ih =>
    intro i M vs hi hu ho4 ho5 hl5 hone he hb hd
    apply T_fettlelaw8_edges_1
    unfold S_fettlelaw8_edges_1
    rw [(hx.up hu).len, OP_some, e_lss, BR_dec, if_pos (by omega), e_lss, BR_dec, if_pos (by omega)]
    apply T_fettlelaw8_edges_2
    unfold S_fettlelaw8_edges_2
    obtain ⟨p, h1, h2⟩ := (hx.up hu).at (i := i) (by omega) .i64
    have hsn := fun k => edF_snoc (zs.take i) (zs[i]'(by omega)) r k
    rw [← List.take_succ_eq_append_getElem (by omega)] at hsn
    generalize zs[i]'(by omega) = z at *
    have ea := e_andN z 15 (by decide)
    have eb := e_andN (shrN z 4) 15 (by decide)
    have es := e_shrN z 4 (by decide)
    simp only [Int.cast_ofNat_Int] at ea eb es
    rw [h1, OP_some, h2, OP_some, ea, OP_some, OP_some, h2, OP_some, es, eb, OP_some, e_not, BR_bool]
    have ha := andN_le z 15 (by decide)
    have hbb := andN_le (shrN z 4) 15 (by decide)
    generalize haa : andN z 15 = a at *
    generalize hbe : andN (shrN z 4) 15 = c at *
    have skip : ¬ (r = true ∨ c < a) → OP (binI .add (iv i) (iv 1)) fun t => P_fettlelaw8_edges_1 x0 (tv r) (.pointer (some ⟨b4, 0, none⟩)) (.pointer (some ⟨b5, 0, none⟩)) t M Q := by
      intro hno
      rw [e_add, w64 (by omega) (by omega)]
      refine ih (i + 1) M vs (by omega) hu ho4 ho5 hl5 hone (fun k hk => ?_) hb hd
      rw [hsn k, if_neg (fun h => hno h.2), List.append_nil]; exact he k hk
    have go : (r = true ∨ c < a) → OP (ixP 1 16 (.pointer (some ⟨b5, 0, none⟩)) (iv a)) fun t39 => OP (ld 1 false t39 M) fun t40 => OP (bldL (iv 0) 1 1 [(0, iv c)]) fun q =>
        LT (.slice (some ⟨M.n, 0, none⟩) 1 1) (M.push (some (.inl (q, Ty.int, true)))) fun t42 M1 => OP2 (appV 1 Ty.int t40 t42 M1) fun t43 M2 => OP (ixP 1 16 (.pointer (some ⟨b5, 0, none⟩)) (iv a)) fun t44 => OP (st 1 t44 t43 M2) fun M3 =>
        OP (binI .add (iv i) (iv 1)) fun t => P_fettlelaw8_edges_1 x0 (tv r) (.pointer (some ⟨b4, 0, none⟩)) (.pointer (some ⟨b5, 0, none⟩)) t M3 Q := by
      intro hyes
      have hva : vs[a]? = some (vs.getD a undef) := by rw [List.getD_eq_getElem?_getD, List.getElem?_eq_getElem (by omega)]; rfl
      rw [ixP_at (by omega), OP_some, ho5.ld hva, OP_some, bl_int, OP_some, LT_eq]
      have hlen : (edF (zs.take i) r a).length ≤ 40 := Nat.le_trans (edF_length _ _ _) (by simp; omega)
      refine NV.app1 hu (Nat.le_refl _) hu.n (he a (by omega)) (c : Int) rfl (by omega) fun v2 M2 hu2 hv2 hc2 hb2 => ?_
      obtain ⟨b2, hb21, hb22, hb23⟩ := hb2
      have hk2 : Keep Ty.int M M2 := Nw.keepE (he a (by omega)) hc2
      have ho5' : Ob M2 b5 vs Ty.a16_sl_int := ho5.keep (by decide) hk2
      have ho4' : Ob M2 b4 c4 Ty.a16_sl_int := ho4.keep (by decide) hk2
      obtain ⟨av, nv, rfl⟩ := hv2.sl.slice
      rw [OP_some, ho5'.st (by omega) (cells_sl _ _ _) (oc_sl _ _ _), OP_some, e_add, w64 (by omega) (by omega)]
      have hc3 := Ch.setO ho5' (some (.inl (vs.set a (.slice av ((edF (zs.take i) r a) ++ [(c : Int)]).length nv), Ty.a16_sl_int, true)))
      have hk3 := hc3.keepT ho5'
      have hget : ∀ k, k < 16 → (vs.set a (.slice av ((edF (zs.take i) r a) ++ [(c : Int)]).length nv)).getD k undef = if k = a then .slice av ((edF (zs.take i) r a) ++ [(c : Int)]).length nv else vs.getD k undef := by
        intro k hk
        by_cases e : k = a
        · subst e; rw [if_pos rfl, List.getD_eq_getElem?_getD, List.getElem?_set_self (by omega)]; rfl
        · rw [if_neg e, List.getD_eq_getElem?_getD, List.getElem?_set_ne (fun h => e h.symm), ← List.getD_eq_getElem?_getD]
      refine ih (i + 1) _ _ (by omega) (hu2.ch hc3 (by simpa using h5)) ?_ (ho5'.setSt _) (by simpa using hl5) ?_ ?_ ?_ ?_
      · exact ho4'.fr hc3 (by simpa using h45)
      · rw [List.all_eq_true] at hone ⊢
        intro x hx3
        rcases List.mem_or_eq_of_mem_set hx3 with h | h
        · exact hone x h
        · subst h; exact oc_sl _ _ _
      · intro k hk
        rw [hget k hk, hsn k]
        by_cases e : k = a
        · subst e
          rw [if_pos rfl, if_pos ⟨rfl, hyes⟩]
          exact hv2.keep (by decide) hk3
        · rw [if_neg e, if_neg (fun h => e h.1.symm), List.append_nil]
          refine Nw.keep ?_ (by decide) hk3
          refine (he k hk).fr hc2 fun q hq hm => ?_
          exact hd k a q hk (by omega) e hq (bx_of_kil (mem_kl.1 hm))
      · intro k q hk hq
        rw [hget k hk] at hq
        have := hc2.n
        have h3n : M2.n ≤ (M2.set b5 (some (.inl (vs.set a (.slice av ((edF (zs.take i) r a) ++ [(c : Int)]).length nv), Ty.a16_sl_int, true)))).n := hc3.n
        by_cases e : k = a
        · rw [if_pos e, hb21] at hq; injection hq with hq; omega
        · rw [if_neg e] at hq; have := hb k q hk hq; omega
      · intro j k q hj hk hjk hq
        rw [hget j hj] at hq
        rw [hget k hk]
        by_cases e : j = a
        · rw [if_pos e, hb21] at hq
          rw [if_neg (fun h => hjk (e.trans h.symm))]
          injection hq with hq
          intro h6
          have := hb k q hk h6; omega
        · rw [if_neg e] at hq
          by_cases e2 : k = a
          · rw [if_pos e2, hb21]
            intro h6; injection h6 with h6
            have := hb j q hj hq; omega
          · rw [if_neg e2]; exact hd j k q hj hk hjk hq
    cases r with
    | true => rw [if_neg (by decide)]; exact go (.inl rfl)
    | false =>
      rw [if_pos (by decide), e_leq, BR_dec]
      split
      · exact skip (by simp; omega)
      · exact go (.inr (by omega))

theorem edges_ok {M : Store} {x0 : Value} {zs : List Int} (hx : LV iv Ty.int M x0 zs) (r : Bool) :
    R F.fettlelaw8_edges #[x0, tv r] M fun w M' => Up M M' ∧ EdN M M' w (edF (zs.take 40) r) := by
  apply T_fettlelaw8_edges
  unfold S_fettlelaw8_edges
  rw [LT_eq, LT_eq]
  have ho4 := (Ob.new M nil16 Ty.a16_sl_int).up (Up.push _ (some (.inl (nil16, Ty.a16_sl_int, true))))
  have ho5 := Ob.new (M.push (some (.inl (nil16, Ty.a16_sl_int, true)))) nil16 Ty.a16_sl_int
  have hg : ∀ k, k < 16 → nil16.getD k undef = .slice none 0 0 := by
    intro k hk
    have : k = 0 ∨ k = 1 ∨ k = 2 ∨ k = 3 ∨ k = 4 ∨ k = 5 ∨ k = 6 ∨ k = 7 ∨ k = 8 ∨ k = 9 ∨ k = 10 ∨ k = 11 ∨ k = 12 ∨ k = 13 ∨ k = 14 ∨ k = 15 := by omega
    rcases this with rfl | rfl | rfl | rfl | rfl | rfl | rfl | rfl | rfl | rfl | rfl | rfl | rfl | rfl | rfl | rfl <;> rfl
  refine edges_loop hx (r := r) (b4 := M.n) (by simp) (Nat.le_refl _) (by simp) rfl (fun w M' h1 h2 => ⟨h1, h2⟩) (min zs.length 40) 0 _ nil16 rfl ((Up.push _ _).trans (Up.push _ _)) ho4 ho5 rfl (by kernel_rfl) (fun k hk => ?_) (fun k c hk h => ?_) fun j k c hj hk _ h => ?_
  · rw [hg k hk, List.take_zero]; exact NV.nil
  · rw [hg k hk] at h; cases h
  · rw [hg j hj] at h; cases h

end Go.G
