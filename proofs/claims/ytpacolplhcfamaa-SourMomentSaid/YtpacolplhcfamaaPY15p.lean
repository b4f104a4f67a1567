/- SourMisses as a whole. -/
import Derived.Test.YtpacolplhcfamaaPY15m
namespace Go.G
open Go.Ab Go.Proofs Go.RowKit
set_option linter.unusedVariables false
set_option linter.unusedSimpArgs false
set_option maxRecDepth 100000

structure MiI (fl : Fl) (i w : Nat) : Prop where
  w : w = fb ((L4.take i).map (outR fl madeP))
  no : ∀ s ∈ L4.drop i, fl s = none
theorem l4_take : ∀ i (h : i < 4), ∀ t ∈ L4.take i, t ≠ L4[i] := by decide
theorem l4_drop : ∀ i (h : i < 4), ∀ t ∈ L4.drop (i + 1), t ≠ L4[i] := by decide
theorem MiI.step {fl fl' : Fl} {i w c : Nat} (h : MiI fl i w) (hi : i < 4) (he : ∀ t, t ≠ L4[i] → fl' t = fl t) (hc : outR fl' madeP L4[i] = c) : MiI fl' (i + 1) (if w = 1 then c else w) := by
  refine ⟨?_, fun t ht => ?_⟩
  · rw [List.take_succ_eq_append_getElem (show i < L4.length from hi), List.map_append, List.map_singleton, fb_snoc, hc]
    have : (L4.take i).map (outR fl' madeP) = (L4.take i).map (outR fl madeP) := List.map_congr_left fun t ht => by
      unfold outR; rw [he t (l4_take i hi t ht)]
    rw [this, ← h.w]
  · rw [he t (l4_drop i hi t ht)]
    exact h.no t (by rw [List.drop_eq_getElem_cons (show i < L4.length from hi)]; exact List.mem_cons_of_mem _ ht)
theorem putF_ne {fl : Fl} {s b : List UInt8} {z : Nat} : ∀ t, t ≠ s → putF fl s b z t = fl t := fun t h => by unfold putF; rw [if_neg h]
theorem e_no (K : List Value → Prop) : OP (bldL (.int .u8 0) 1 11 [(0, (.int .u8 110)), (1, (.int .u8 111)), (2, (.int .u8 32)), (3, (.int .u8 97)), (4, (.int .u8 114)), (5, (.int .u8 116)), (6, (.int .u8 105)), (7, (.int .u8 102)), (8, (.int .u8 97)), (9, (.int .u8 99)), (10, (.int .u8 116))]) K = K (([110, 111, 32, 97, 114, 116, 105, 102, 97, 99, 116] : List UInt8).map bv) := by kernel_rfl
theorem e_l4 (K : List Value → Prop) : OP (bldL (.string ⟨#[]⟩) 1 4 [(0, (.string ⟨#[115]⟩)), (1, (.string ⟨#[97]⟩)), (2, (.string ⟨#[116]⟩)), (3, (.string ⟨#[98]⟩))]) K = K (L4.map sv) := by kernel_rfl
section
variable {M0 : Store} {n : Int} {x4 : Value} {bf r : Nat} {Q : Value → Store → Prop}
theorem nm_keep {M M1 M' : Store} {last U : Nat} {fl : Fl} (hf : FSR M0 M bf r 1048576 U last fl) (h : LV sv Ty.string M x4 L4) (u : Up M M1) (c : Ch [bf, r] M1 M') : LV sv Ty.string M' x4 L4 :=
  Sl.chS (Sl.up h u) c ((hf.up u).away (by decide))
theorem mi_new (hQ : ∀ M, Q (tv true) M) {M : Store} {U last w : Nat} {fl : Fl} (hu : Up M0 M) (hf : FSR M0 M bf r 1048576 U last fl) (h4 : LV sv Ty.string M x4 L4) (hi : MiI fl 4 w) : P_fettlelaw15_SourMisses_3 (pB bf) x4 (nv w) M Q := by
  apply T_fettlelaw15_SourMisses_3
  unfold S_fettlelaw15_SourMisses_3
  refine (NewR_ok h4 (by decide) F.fettlelaw15_made).mono fun v M1 ⟨u1, br, e, hR⟩ => ?_
  subst e
  rw [abin_ptr _root_.Go.G.U.p_sour_Read, BR_bool, if_neg (by decide), hi.w]
  have hR1 := (hR [] M1 (fun b hb => by cases hb) (Ch.refl _ _)).base (M0 := M0) hu.n
  exact mi_reads (L := L4) hQ (by decide) name4 4 0 M1 _ _ rfl (by decide) (hu.trans u1) (hf.up u1) hR1 ⟨rfl, rfl, rfl, rfl, rfl, fun v hv => (by cases hv), fun s hs => (by cases hs)⟩
theorem mi_loop (hQ : ∀ M, Q (tv true) M) : ∀ (k i : Nat) (M : Store) (fl : Fl) (U last w : Nat), k + i = 4 → U ≤ 300 * i → last ≤ i → Up M0 M → FSR M0 M bf r 1048576 U last fl → LV sv Ty.string M x4 L4 → MiI fl i w → P_fettlelaw15_SourMisses_1 (iv n) (pB bf) x4 (nv w) x4 (nv 4) (nv i) M Q := by
  intro k
  induction k with
  | zero =>
    intro i M fl U last w hi hU hlast hu hf h4 hI
    apply T_fettlelaw15_SourMisses_1
    unfold S_fettlelaw15_SourMisses_1
    rw [lss_n, BR_dec, if_neg (by omega)]
    have : i = 4 := by omega
    subst this
    exact mi_new hQ hu hf h4 hI
  | succ k ih =>
    intro i M fl U last w hi hU hlast hu hf h4 hI
    have hi4 : i < 4 := by omega
    apply T_fettlelaw15_SourMisses_1
    unfold S_fettlelaw15_SourMisses_1
    rw [lss_n, BR_dec, if_pos hi4]
    apply T_fettlelaw15_SourMisses_2
    unfold S_fettlelaw15_SourMisses_2
    obtain ⟨p, e1, e2⟩ := h4.at (show i < L4.length from hi4) .i64
    rw [e1, OP_some, e2, OP_some]
    show OP (binI .mul (.int .i64 2) (.int .i64 (i : Int))) _
    rw [e_mul, w64 (by omega) (by omega), e_cvI]
    have e3 : IntKind.wrap .u64 (2 * (i : Int)) = ((2 * i : Nat) : Int) := by
      have : i = 0 ∨ i = 1 ∨ i = 2 ∨ i = 3 := by omega
      rcases this with rfl | rfl | rfl | rfl <;> rfl
    rw [e3, e_shrN n (2 * i) (by omega)]
    show OP (binI .and (.int .i64 (shrN n (2 * i))) (.int .i64 ((3 : Nat) : Int))) _
    rw [e_andN _ 3 (by decide), OP_some]
    have hq := andN_le (shrN n (2 * i)) 3 (by decide)
    generalize andN (shrN n (2 * i)) 3 = q at *
    have hs : nameOk L4[i] := name4 _ (List.getElem_mem _)
    have hsI : ∀ (fl' : Fl) (c : Nat), (∀ t, t ≠ L4[i] → fl' t = fl t) → outR fl' madeP L4[i] = c → MiI fl' (i + 1) (if w = 1 then c else w) := fun fl' c a b => hI.step hi4 a b
    have hno := hI.no L4[i] (by rw [List.drop_eq_getElem_cons (show i < L4.length from hi4)]; exact List.mem_cons_self)
    -- the first that is not well
    have next : ∀ (c : Nat) (M' : Store) (fl' : Fl) (U' last' : Nat), U' ≤ 300 * (i + 1) → last' ≤ i + 1 → Up M0 M' → FSR M0 M' bf r 1048576 U' last' fl' → LV sv Ty.string M' x4 L4 → (∀ t, t ≠ L4[i] → fl' t = fl t) → outR fl' madeP L4[i] = c →
        (OP (binI .eql (nv w) (.int .i64 1)) fun t54 => BR t54 (OP (binI .add (nv i) (.int .i64 1)) fun t56 => P_fettlelaw15_SourMisses_1 (iv n) (pB bf) x4 (nv c) x4 (nv 4) t56 M' Q) (OP (binI .add (nv i) (.int .i64 1)) fun t56 => P_fettlelaw15_SourMisses_1 (iv n) (pB bf) x4 (nv w) x4 (nv 4) t56 M' Q)) := by
      intro c M' fl' U' last' g1 g2 g3 g4 g5 g6 g7
      have := hsI fl' c g6 g7
      rw [eql_l 1 1 rfl, BR_dec]
      split
      · rename_i hw
        rw [if_pos hw] at this
        rw [add1_n _ (by omega)]
        exact ih (i + 1) M' fl' U' last' c (by omega) g1 g2 g3 g4 g5 this
      · rename_i hw
        rw [if_neg hw] at this
        rw [add1_n _ (by omega)]
        exact ih (i + 1) M' fl' U' last' w (by omega) g1 g2 g3 g4 g5 this
    generalize hss : L4[i] = s at *
    rw [eql_l 0 0 rfl, BR_dec]
    split
    · refine (write_law hu hf hs (n := 1) (by decide) (by omega) (by decide) (by omega)).mono fun v M' ⟨u', ⟨M1, u1, c⟩, h'⟩ => ?_
      exact next 1 M' _ _ _ (by omega) (by omega) u' h' (nm_keep hf h4 u1 c) putF_ne out_w
    rw [eql_l 1 1 rfl, BR_dec]
    split
    · exact next 2 M fl U last (by omega) (by omega) hu hf h4 (fun t _ => rfl) (by unfold outR; rw [hno])
    rw [eql_l 2 2 rfl, BR_dec]
    split
    · rw [e_no]
      refine s_lit (s := 1) (n := 11) rfl fun M1 u1 hN1 o1 n1 => ?_
      have hN1 : N M M1 (.slice (some ⟨M.n, 0, none⟩) 11 11) [110, 111, 32, 97, 114, 116, 105, 102, 97, 99, 116] := hN1
      refine cvId_o (M0 := M) u1 hN1 (by simp) fun M2 u2 hN2 _ _ => ?_
      refine (Put_ok (hu.trans u2) (hf.up u2) hs hN2.by (by simp) (by simp; omega) (by decide) (by omega)).mono fun v M3 ⟨u3, ⟨M4, u4, c⟩, _, h3⟩ => ?_
      have h43 := nm_keep hf h4 (u2.trans u4) c
      refine made_run s M3 ?_
      rw [BR_bool]
      split
      · rename_i hm
        exact next 3 M3 _ _ _ (by simp; omega) (by omega) u3 h3 h43 putF_ne (by rw [out_no, if_pos hm])
      · rename_i hm
        exact next 1 M3 _ _ _ (by simp; omega) (by omega) u3 h3 h43 putF_ne (by rw [out_no, if_neg hm])
    · refine mkS_ok (En := bv) (e := Ty.uint8) (n := 300) (by_ := 1) (x0 := (0 : UInt8)) rfl rfl (by decide) (by decide) fun v M1 u1 hN1 _ => ?_
      have hN1 : N M M1 v (List.replicate 300 0) := hN1
      refine (Put_ok (hu.trans u1) (hf.up u1) hs hN1.by (by rw [List.length_replicate]; decide) (by rw [List.length_replicate]; omega) (by decide) (by omega)).mono fun v M3 ⟨u3, ⟨M4, u4, c⟩, _, h3⟩ => ?_
      exact next 3 M3 _ _ _ (by rw [List.length_replicate]; omega) (by omega) u3 h3 (nm_keep hf h4 (u1.trans u4) c) putF_ne out_z
end
theorem SourMisses_ok {M : Store} (n : Int) : R F.fettlelaw15_SourMisses #[iv n] M fun v M' => v = tv true := by
  refine R.cps fun Q hQ => ?_
  have hQ : ∀ M, Q (tv true) M := fun M => hQ _ _ rfl
  apply T_fettlelaw15_SourMisses
  unfold S_fettlelaw15_SourMisses
  refine (New_ok (room := 1048576) (by decide)).mono fun v M1 ⟨u1, bf, r, e, hf1⟩ => ?_
  subst e
  rw [abin_ptr U.p_simf_FS, BR_bool, if_neg (by decide), e_l4]
  refine s_lit (s := 1) (n := 4) rfl fun M2 u2 hN2 o2 n2 => ?_
  have h4 : LV sv Ty.string M2 (.slice (some ⟨M1.n, 0, none⟩) 4 4) L4 := hN2.sl
  rw [h4.len, OP_some]
  exact mi_loop hQ 4 0 M2 _ 0 0 1 rfl (by decide) (by decide) (u1.trans u2) (hf1.up u2) h4 ⟨rfl, fun s _ => rfl⟩
end Go.G
