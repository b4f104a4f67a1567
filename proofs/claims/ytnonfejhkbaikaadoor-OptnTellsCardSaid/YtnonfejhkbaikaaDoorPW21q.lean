/- Options read by the program, and told by the document. -/
import Derived.Test.YtnonfejhkbaikaaDoorPW21p
namespace Go.G
open Go.Ab Go.Proofs Go.RowKit
set_option linter.unusedVariables false
set_option linter.unusedSimpArgs false
set_option maxRecDepth 100000

theorem cutF_len (c : UInt8) : ∀ s : List UInt8, (cutF c s).length ≤ s.length + 1 ∧ ∀ x ∈ cutF c s, x.length ≤ s.length
  | [] => by simp [cutF]
  | d :: s => by
    obtain ⟨h1, h2⟩ := cutF_len c s
    unfold cutF
    split
    · refine ⟨by simp; omega, fun x hx => ?_⟩
      rcases List.mem_cons.1 hx with rfl | hx
      · simp
      · have := h2 x hx; simp; omega
    · split
      · simp
      · rename_i y r e
        rw [e] at h1 h2
        refine ⟨by simp at h1 ⊢; omega, fun x hx => ?_⟩
        rcases List.mem_cons.1 hx with rfl | hx
        · have := h2 y (by simp); simp; omega
        · have := h2 x (by simp [hx]); simp; omega
theorem readO_names : ∀ (ws : List (List UInt8)) (d f c : Bool), (readO d f c ws).2.2.2.length ≤ ws.length ∧ ∀ x ∈ (readO d f c ws).2.2.2, x ∈ ws
  | [], d, f, c => by simp [readO]
  | x :: r, d, f, c => by
    unfold readO
    split
    · exact ⟨by simp, fun y hy => by simp at hy; simp [hy]⟩
    · obtain ⟨h1, h2⟩ := readO_names r (d || decide (x = wDry)) (f || decide (x = wFast)) (c || decide (x = wClean))
      exact ⟨by simp; omega, fun y hy => by simp [h2 y hy]⟩
/-- What is read: options, or none. -/
def OpR (M' : Store) (r : Value) (o : Option OpT) : Prop := ∃ w, r = .tuple #[w, tv o.isSome] ∧ OV M' w (o.getD zeroO)
theorem bs_o0 (K : Value → Prop) : OP (bldS #[(.bool false), (.bool false), (.bool false), (.slice none 0 0)] [(0, 1), (1, 1), (2, 1), (3, 1)] []) K = K (.agg [tv false, tv false, tv false, .slice none 0 0].toArray) := by kernel_rfl
section
variable {M0 : Store} {b2 b4 : Nat} {s : List UInt8} {Q : Value → Store → Prop}
abbrev pO (b : Nat) : Value := .pointer (some ⟨b, 0, none⟩)
theorem op_4 (hs : s.length ≤ 2 ^ 20) (hb2 : M0.n ≤ b2) (hb4 : M0.n ≤ b4) (hne : b2 ≠ b4) {o : OpT} (ho : o = readO false false false (wordsS s)) (hQ : ∀ r M', Up M0 M' → OpR M' r (parseO s) → Q r M') {M : Store} (hu : Up M0 M) {a : Option Addr} {c : Nat} {z : List Value} (o2 : Ob M b2 z Ty.api_Options) (hz : z.length = 4)
    (o4 : Ob M b4 (ocs o a c) Ty.api_Options) (h4 : LV sv Ty.string M (.slice a o.2.2.2.length c) o.2.2.2) : P_optn_Parse_4 (sv s) (pO b2) (pO b4) M Q := by
  apply T_optn_Parse_4
  unfold S_optn_Parse_4
  rw [o4.ldA (s := 4) rfl, OP_some]
  have hcl := cutF_len 32 s
  have hwl : (wordsS s).length ≤ s.length + 1 ∧ ∀ x ∈ wordsS s, x.length ≤ s.length := by
    unfold wordsS
    split
    · simp
    · exact hcl
  have hnl := readO_names (wordsS s) false false false
  rw [← ho] at hnl
  refine (OPrint_ok (o := o) ⟨a, c, rfl, h4⟩ (by omega) (fun x hx => by have := hwl.2 x (hnl.2 x hx); omega)).mono fun r M1 ⟨u1, e⟩ => ?_
  subst e
  rw [sv_ne, BR_dec]
  have o21 := o2.up u1
  have hu1 := hu.trans u1
  split
  · rename_i hp
    have hpar : parseO s = none := by unfold parseO; rw [← ho, if_neg hp]
    rw [bs_o0]
    refine one_res (S := []) hu1 o21 hb2 hz rfl (by kernel_rfl) fun M' hu' _ _ => hQ _ _ hu' ?_
    rw [hpar]
    exact ⟨_, rfl, OV.zero _⟩
  · rename_i hp
    have hp : printO o = s := by simpa using hp
    have hpar : parseO s = some o := by unfold parseO; rw [← ho, if_pos hp]
    rw [(o4.up u1).ldA (s := 4) rfl, OP_some]
    refine one_res (S := []) (v2 := ocs o a c) hu1 o21 hb2 hz rfl (ocs_one _ _ _) fun M' hu' c' _ => hQ _ _ hu' ?_
    rw [hpar]
    exact ⟨_, rfl, a, c, rfl, Sl.keep (Sl.up h4 u1) (by decide) (c'.keepT o21)⟩
theorem op_loop (hs : s.length ≤ 2 ^ 20) (hb2 : M0.n ≤ b2) (hb4 : M0.n ≤ b4) (hne : b2 ≠ b4) (hQ : ∀ r M', Up M0 M' → OpR M' r (parseO s) → Q r M') {x5 : Value} {Mb : Store} (hb : LV sv Ty.string Mb x5 (wordsS s)) (h2b : b2 < Mb.n) (h4b : b4 < Mb.n) {z : List Value} (hz : z.length = 4) :
    ∀ (k i : Nat) (M : Store) (d f c : Bool), k + i = (wordsS s).length → Up M0 M → Ch [b4] Mb M → Ob M b2 z Ty.api_Options → Ob M b4 [tv d, tv f, tv c, .slice none 0 0] Ty.api_Options → readO d f c ((wordsS s).drop i) = readO false false false (wordsS s) →
      LV sv Ty.string M x5 (wordsS s) → P_optn_Parse_2 (sv s) (pO b2) (pO b4) x5 x5 (iv ((wordsS s).length : Int)) (iv (i : Int)) M Q := by
  have hwl : (wordsS s).length ≤ s.length + 1 := by
    unfold wordsS
    split
    · simp
    · exact (cutF_len 32 s).1
  intro k
  induction k with
  | zero =>
    intro i M d f c hi hu hc o2 o4 hr h5
    apply T_optn_Parse_2
    unfold S_optn_Parse_2
    rw [lss_n, BR_dec, if_neg (by omega)]
    rw [List.drop_of_length_le (by omega), readO] at hr
    exact op_4 (o := (d, f, c, [])) (a := none) (c := 0) hs hb2 hb4 hne hr hQ hu o2 hz o4 (Sl.nil _ _ _)
  | succ k ih =>
    intro i M d f c hi hu hc o2 o4 hr h5
    have hil : i < (wordsS s).length := by omega
    apply T_optn_Parse_2
    unfold S_optn_Parse_2
    rw [lss_n, BR_dec, if_pos hil]
    apply T_optn_Parse_3
    unfold S_optn_Parse_3
    obtain ⟨p, e1, e2⟩ := h5.at hil .i64
    have hdr : (wordsS s).drop i = (wordsS s)[i] :: (wordsS s).drop (i + 1) := List.drop_eq_getElem_cons hil
    rw [hdr, readO] at hr
    rw [e1, OP_some, e2, OP_some]
    generalize (wordsS s)[i] = x at *
    show OP (binS .eql (sv x) (sv wTo)) _
    rw [sv_eq, BR_dec]
    split
    · rename_i hx
      rw [if_pos hx] at hr
      rw [add1_n _ (by omega)]
      obtain ⟨w, e3, e4⟩ := h5.cut (lo := some (iv ((i + 1 : Nat) : Int))) (hi := none) (a := i + 1) (r := (wordsS s).length) ab_none (ab_some (by omega) .i64) (Nat.le_refl _) (by omega)
      rw [e3, OP_some]
      rw [List.take_length] at e4
      refine (CloneT_ok e4 (by rw [List.length_drop]; omega)).mono fun v M1 ⟨u1, hN⟩ => ?_
      rw [fad0]
      obtain ⟨va, vc, rfl⟩ := hN.sl.slice
      refine s_st1 (i := 3) (w := .slice va ((wordsS s).drop (i + 1)).length vc) (o4.up u1) (by simp) (cells_sl _ _ _) (oc_sl _ _ _) fun M2 c2 o42 _ => ?_
      have hu2 := (hu.trans u1).ch c2 (by simpa using hb4)
      exact op_4 (o := (d, f, c, (wordsS s).drop (i + 1))) (a := va) (c := vc) hs hb2 hb4 hne hr hQ hu2 ((o2.up u1).fr c2 (by simpa using hne)) hz o42 (Sl.keep hN.lv (by decide) (c2.keepT (o4.up u1)))
    · rename_i hx
      rw [if_neg hx] at hr
      apply T_optn_Parse_5
      unfold S_optn_Parse_5
      have next : ∀ (M' : Store) (d' f' c' : Bool), Up M0 M' → Ch [b4] M M' → Ob M' b4 [tv d', tv f', tv c', .slice none 0 0] Ty.api_Options → readO d' f' c' ((wordsS s).drop (i + 1)) = readO false false false (wordsS s) → P_optn_Parse_6 (sv s) (pO b2) (pO b4) x5 x5 (iv ((wordsS s).length : Int)) (iv (i : Int)) M' Q := by
        intro M' d' f' c' u' cc o' hr'
        apply T_optn_Parse_6
        unfold S_optn_Parse_6
        rw [add1_n _ (by omega)]
        exact ih (i + 1) M' d' f' c' (by omega) u' (hc.trans cc) (o2.fr cc (by simpa using hne)) o' hr' (Sl.keep h5 (by decide) (cc.keepT o4))
      show OP (binS .eql (sv x) (sv wDry)) _
      rw [sv_eq, BR_dec]
      split
      · rename_i h1
        rw [fad0]
        refine s_st1 (i := 0) (w := tv true) o4 (by simp) (cells_tv _) (oc_tv _) fun M2 c2 o42 _ => ?_
        refine next M2 true f c (hu.ch c2 (by simpa using hb4)) c2 o42 ?_
        rw [← hr, h1]
        congr 1
        · simp
        · have : ¬ wDry = wFast := by decide
          simp [this]
        · have : ¬ wDry = wClean := by decide
          simp [this]
      · rename_i h1
        show OP (binS .eql (sv x) (sv wFast)) _
        rw [sv_eq, BR_dec]
        split
        · rename_i h2
          rw [fad0]
          refine s_st1 (i := 1) (w := tv true) o4 (by simp) (cells_tv _) (oc_tv _) fun M2 c2 o42 _ => ?_
          refine next M2 d true c (hu.ch c2 (by simpa using hb4)) c2 o42 ?_
          rw [← hr, h2]
          congr 1
          · have : ¬ wFast = wDry := by decide
            simp [this]
          · simp
          · have : ¬ wFast = wClean := by decide
            simp [this]
        · rename_i h2
          show OP (binS .eql (sv x) (sv wClean)) _
          rw [sv_eq, BR_dec]
          split
          · rename_i h3
            rw [fad0]
            refine s_st1 (i := 2) (w := tv true) o4 (by simp) (cells_tv _) (oc_tv _) fun M2 c2 o42 _ => ?_
            refine next M2 d f true (hu.ch c2 (by simpa using hb4)) c2 o42 ?_
            rw [← hr, h3]
            congr 1
            · have : ¬ wClean = wDry := by decide
              simp [this]
            · have : ¬ wClean = wFast := by decide
              simp [this]
            · simp
          · rename_i h3
            refine next M d f c hu (Ch.refl _ _) o4 ?_
            rw [← hr, decide_eq_false h1, decide_eq_false h2, decide_eq_false h3, Bool.or_false, Bool.or_false, Bool.or_false]
theorem OParse_ok {M : Store} {s : List UInt8} (hs : s.length ≤ 2 ^ 20) : R F.optn_Parse #[sv s] M fun r M' => Up M M' ∧ OpR M' r (parseO s) := by
  refine R.cps fun Q hQ => ?_
  apply T_optn_Parse
  unfold S_optn_Parse
  refine s_new fun M1 u1 o1 n1 => ?_
  refine s_new fun M2 u2 o2 n2 => ?_
  refine (Split1_ok (l := s) (c := 32) (by omega)).mono fun v M3 ⟨u3, h3⟩ => ?_
  have hu3 := (u1.trans u2).trans u3
  have o13 := (o1.up u2).up u3
  have o23 := o2.up u3
  have hlt1 := o13.lt
  have hlt2 := o23.lt
  have go : ∀ x5, LV sv Ty.string M3 x5 (wordsS s) → P_optn_Parse_1 (sv s) (pO M.n) (pO M1.n) x5 M3 Q := fun x5 h5 => by
    apply T_optn_Parse_1
    unfold S_optn_Parse_1
    rw [h5.len, OP_some]
    exact op_loop (M0 := M) (Mb := M3) hs (Nat.le_refl _) u1.n (by omega) (fun r M' hu hr => hQ _ _ ⟨hu, hr⟩) h5 hlt1 hlt2 rfl (wordsS s).length 0 M3 false false false rfl hu3 (Ch.refl _ _) o13 o23 (by rw [List.drop_zero]) h5
  show OP (binS .eql (sv s) (sv [])) _
  rw [sv_eq, BR_dec]
  split
  · rename_i h
    exact go _ (by unfold wordsS; rw [if_pos h]; exact Sl.nil _ _ _)
  · rename_i h
    exact go _ (by unfold wordsS; rw [if_neg h]; exact h3)
end
end Go.G
