/- Layer 4: NameBack, NameTells. -/
import Derived.Test.YtdhdbdngjbbgiaaDoorPW4c
import Derived.Test.YtdhdbdngjbbgiaaDoorPW5e
import Derived.Test.YtdhdbdngjbbgiaaDoorPTB
namespace Go.G
open Go.Ab Go.Proofs Go.RowKit
set_option linter.unusedVariables false
set_option linter.unusedSimpArgs false
set_option maxRecDepth 100000

theorem awake4_ok {M : Store} {Q : Value → Store → Prop} (hQ : Q (tv true) M) : R F.fettlelaw4_awake #[] M Q := R_told (g := yes0) (by kernel_rfl) rfl hQ
theorem c999 (n : Int) : (if (999 : Int) < (if (0 : Int) > n then (0 : Int) else n) then (999 : Int) else (if (0 : Int) > n then (0 : Int) else n)) = ((clampN n 999 : Nat) : Int) := clamp_n n 999
theorem c99999 (n : Int) : (if (99999 : Int) < (if (0 : Int) > n then (0 : Int) else n) then (99999 : Int) else (if (0 : Int) > n then (0 : Int) else n)) = ((clampN n 99999 : Nat) : Int) := clamp_n n 99999
theorem temp_len (a b c : Int) : (tempF a b c).length ≤ 100 := by
  have h1 := clampN_le a 999
  have h2 := clampN_le b 99999
  have h3 := clampN_le c 99999
  have l1 := dd_len10 (show clampN a 999 ≤ 99999 by omega)
  have l2 := dd_len10 h2
  have l3 := dd_len10 h3
  unfold tempF dec3 tmpS
  simp; omega
theorem ofF_temp (a b c : Int) : ofF (tempF a b c) = some (((clampN a 999 : Nat) : Int), ((clampN b 99999 : Nat) : Int)) := by
  rw [ofF_eq]
  exact rofF_temp _ _ _ (clampN_le _ _) (clampN_le _ _) (clampN_le _ _)
theorem temp_file (a b c : Int) : fileF (tempF a b c) = true ∧ okF (tempF a b c) = false := dec3_file _ _ _ (clampN_le _ _) (clampN_le _ _) (clampN_le _ _)
theorem dec_iff {p q : Prop} [Decidable p] [Decidable q] (h : p ↔ q) : (decide p == decide q) = true := by
  by_cases hp : p
  · rw [decide_eq_true hp, decide_eq_true (h.1 hp)]; rfl
  · rw [decide_eq_false hp, decide_eq_false fun hq => hp (h.2 hq)]; rfl

theorem NameBack_ok {M : Store} (hT : Tb M) {a b c d : Int} : R F.fettlelaw4_NameBack #[iv a, iv b, iv c, iv d] M fun v M' => v = tv true := by
  refine R.cps fun Q hQ => ?_
  apply T_fettlelaw4_NameBack
  unfold S_fettlelaw4_NameBack
  have hl := temp_len a b c
  refine Temp_ok hT a b c ?_
  refine (Of_ok hT (by omega)).mono fun r M1 ⟨u1, hr⟩ => ?_
  subst hr
  have hT1 := hT.up u1
  rw [ofF_temp]
  have t0 : ∀ (x y : Int) (K : Value → Prop), OP (tup (ofR (some (x, y))) 0) K = K (iv x) := fun _ _ _ => rfl
  have t1 : ∀ (x y : Int) (K : Value → Prop), OP (tup (ofR (some (x, y))) 1) K = K (iv y) := fun _ _ _ => rfl
  have t2 : ∀ (x y : Int) (K : Value → Prop), OP (tup (ofR (some (x, y))) 2) K = K (tv true) := fun _ _ _ => rfl
  rw [t0, t1, t2]
  simp only [e_max, e_min, c999, c99999]
  rw [BR_true, eql_n, decide_eq_true rfl, BR_true, eql_n, decide_eq_true rfl, BR_true]
  refine Temp_ok hT1 a b d ?_
  rw [sv_eq, eql_n, bool_eq]
  rw [dec_iff (show tempF a b d = tempF a b c ↔ clampN c 99999 = clampN d 99999 from ⟨fun h => (dec3_inj h).2.2.symm, fun h => by unfold tempF; rw [h]⟩), BR_true]
  refine Temp_ok hT1 a d c ?_
  rw [sv_eq, eql_n, bool_eq]
  rw [dec_iff (show tempF a d c = tempF a b c ↔ clampN b 99999 = clampN d 99999 from ⟨fun h => (dec3_inj h).2.1.symm, fun h => by unfold tempF; rw [h]⟩), BR_true]
  refine Temp_ok hT1 d b c ?_
  rw [sv_eq, eql_n, bool_eq]
  rw [dec_iff (show tempF d b c = tempF a b c ↔ clampN a 999 = clampN d 999 from ⟨fun h => (dec3_inj h).1.symm, fun h => by unfold tempF; rw [h]⟩), BR_true]
  obtain ⟨f1, f2⟩ := temp_file a b c
  refine File_ok (by omega) ?_
  rw [f1, BR_true]
  refine Ok_ok (by omega) ?_
  rw [f2, e_not]
  show BR (.bool true) _ _
  rw [BR_true]
  exact awake4_ok ⟨rfl, hQ _ _ rfl⟩

/-! ## NameTells -/
def pieces4 : List (List UInt8) := [[97], [116, 109, 112], [47], [46], [48], [55], [49, 50], [57, 57, 57, 57, 57], [49, 48, 48, 48, 48, 48], [45], [95], [65], [108, 111, 99, 107], [99, 108, 97, 105, 109], [120, 46, 111], [32]]
theorem pieces4_len : ∀ x ∈ pieces4, x.length ≤ 6 := by decide
theorem pieces4_lit (K : List Value → Prop) : OP (bldL (.string ⟨#[]⟩) 1 16 [(0, (.string ⟨#[97]⟩)), (1, (.string ⟨#[116, 109, 112]⟩)), (2, (.string ⟨#[47]⟩)), (3, (.string ⟨#[46]⟩)), (4, (.string ⟨#[48]⟩)), (5, (.string ⟨#[55]⟩)), (6, (.string ⟨#[49, 50]⟩)), (7, (.string ⟨#[57, 57, 57, 57, 57]⟩)), (8, (.string ⟨#[49, 48, 48, 48, 48, 48]⟩)), (9, (.string ⟨#[45]⟩)), (10, (.string ⟨#[95]⟩)), (11, (.string ⟨#[65]⟩)), (12, (.string ⟨#[108, 111, 99, 107]⟩)), (13, (.string ⟨#[99, 108, 97, 105, 109]⟩)), (14, (.string ⟨#[120, 46, 111]⟩)), (15, (.string ⟨#[32]⟩))]) K = K (pieces4.map sv) := by kernel_rfl
theorem lit5s (a b c d e : ByteArray) (K : List Value → Prop) : OP (bldL (.string ⟨#[]⟩) 1 5 [(0, .string a), (1, .string b), (2, .string c), (3, .string d), (4, .string e)]) K = K [.string a, .string b, .string c, .string d, .string e] := by kernel_rfl

section
variable {a b c : Int} {s : List UInt8} {Q : Value → Store → Prop}
theorem nt_end (hs : s.length ≤ 100) (hQ : ∀ M, Q (tv true) M) {M : Store} (hT : Tb M) : P_fettlelaw4_NameTells_6 (iv a) (iv b) (iv c) (sv s) M Q := by
  apply T_fettlelaw4_NameTells_6
  unfold S_fettlelaw4_NameTells_6
  refine Temp_ok hT a b c ?_
  refine (rTemp_ok a b c).mono fun r M1 ⟨u1, hr⟩ => ?_
  subst hr
  have hT1 := hT.up u1
  rw [sv_eq, decide_eq_true rfl, BR_true]
  apply T_name_Claim
  unfold S_name_Claim
  show OP (binS .add (sv [99, 108, 97, 105, 109, 47]) (sv s)) _
  rw [sv_add _ _ (by simp; omega)]
  refine ⟨rfl, ?_⟩
  show OP (binS .add (sv [99, 108, 97, 105, 109, 47]) (sv s)) _
  rw [sv_add _ _ (by simp; omega), sv_eq, decide_eq_true rfl, BR_true]
  refine Temp_ok hT1 a b c ?_
  have hl := temp_len a b c
  refine File_ok (by omega) ?_
  rw [(temp_file a b c).1, BR_true]
  exact awake4_ok ⟨rfl, hQ _⟩
theorem nt_loop (hs : s.length ≤ 100) (hQ : ∀ M, Q (tv true) M) {x58 : Value} {ts : List (List UInt8)} (htl : ts.length ≤ 100) (hts : ∀ t ∈ ts, t.length ≤ 200) : ∀ (d i : Nat) (M : Store), d + i = ts.length → Tb M → LV sv Ty.string M x58 ts →
    P_fettlelaw4_NameTells_4 (iv a) (iv b) (iv c) (sv s) x58 (iv (ts.length : Int)) (iv (i : Int)) M Q := by
  intro d
  induction d with
  | zero =>
    intro i M hi hT h
    apply T_fettlelaw4_NameTells_4
    unfold S_fettlelaw4_NameTells_4
    rw [lss_n, BR_dec, if_neg (by omega)]
    exact nt_end hs hQ hT
  | succ d ih =>
    intro i M hi hT h
    apply T_fettlelaw4_NameTells_4
    unfold S_fettlelaw4_NameTells_4
    have hil : i < ts.length := by omega
    rw [lss_n, BR_dec, if_pos hil]
    apply T_fettlelaw4_NameTells_5
    unfold S_fettlelaw4_NameTells_5
    obtain ⟨p, e1, e2⟩ := h.at hil .i64
    have hl := hts _ (List.getElem_mem hil)
    rw [e1, OP_some, e2, OP_some]
    generalize ts[i] = t at *
    refine (Of_ok hT (by omega)).mono fun r M1 ⟨u1, hr⟩ => ?_
    subst hr
    have t0 : ∀ (o : Option (Int × Int)) (K : Value → Prop), OP (tup (ofR o) 0) K = K (iv ((o.map (·.1)).getD 0)) := fun o K => by cases o <;> rfl
    have t1 : ∀ (o : Option (Int × Int)) (K : Value → Prop), OP (tup (ofR o) 1) K = K (iv ((o.map (·.2)).getD 0)) := fun o K => by cases o <;> rfl
    have t2 : ∀ (o : Option (Int × Int)) (K : Value → Prop), OP (tup (ofR o) 2) K = K (tv o.isSome) := fun o K => by cases o <;> rfl
    rw [t0, t1, t2]
    refine (rOf_ok (by omega)).mono fun r M2 ⟨u2, hr⟩ => ?_
    subst hr
    rw [t0, t1, t2, ofF_eq]
    have bne : ∀ x : Bool, (x != x) = false := fun x => by simp
    refine Ok_ok (by omega) ?_
    refine rOk_ok (by omega) ?_
    rw [bool_ne, bne, BR_false]
    refine File_ok (by omega) ?_
    refine rFile_ok (by omega) ?_
    rw [bool_ne, bne, BR_false]
    have ine : ∀ (x : Int) (K : Value → Prop), OP (binI .neq (iv x) (iv x)) K = K (tv false) := fun x K => by
      show OP (binI .neq (.int .i64 x) (.int .i64 x)) K = _
      rw [e_neq, decide_eq_false (by simp)]
    rw [ine, BR_false, ine, BR_false, bool_ne, bne, BR_false, add1_n _ (by omega)]
    exact ih (i + 1) M2 (by omega) ((hT.up u1).up u2) ((h.up u1).up u2)
theorem nt_tail {x0 : Value} {raw : List UInt8} (hr : raw.length ≤ 60) (hs : s.length ≤ 60) (hQ : ∀ M, Q (tv true) M) {M : Store} (hT : Tb M) (h0 : B M x0 raw) : P_fettlelaw4_NameTells_3 x0 (iv a) (iv b) (iv c) (sv s) M Q := by
  apply T_fettlelaw4_NameTells_3
  unfold S_fettlelaw4_NameTells_3
  rw [cvBS_ok h0, OP_some]
  show OP (binS .add (sv [116, 109, 112, 47]) (sv s)) _
  rw [sv_add _ _ (by simp; omega)]
  refine (rTemp_ok a b c).mono fun r M1 ⟨u1, hr'⟩ => ⟨u1.tdj _ _, ?_⟩
  subst hr'
  show OP (binS .add (sv [99, 108, 97, 105, 109, 47]) (sv s)) _
  rw [sv_add _ _ (by simp; omega), lit5s]
  refine s_lit (s := 1) rfl fun M2 u2 hN o2 n2 => ?_
  rw [e_lenV]
  have hl := temp_len a b c
  refine nt_loop (ts := [raw, s, [116, 109, 112, 47] ++ s, tempF a b c, [99, 108, 97, 105, 109, 47] ++ s]) (by omega) hQ (by simp) (fun t ht => ?_) 5 0 M2 rfl ((hT.up u1).up u2) hN.sl
  simp only [List.mem_cons, List.not_mem_nil, or_false] at ht
  rcases ht with rfl | rfl | rfl | rfl | rfl
  · omega
  · omega
  · simp; omega
  · omega
  · simp; omega
theorem nt_text {x0 x1 x11 : Value} {raw : List UInt8} {zs : List Int} (hr : raw.length ≤ 60) (hQ : ∀ M, Q (tv true) M) {M : Store} (hT : Tb M) (h0 : B M x0 raw) (hz : LV iv Ty.int M x1 zs) (h11 : LV sv Ty.string M x11 pieces4) :
    ∀ (d i : Nat) (s : List UInt8), d + i = min zs.length 8 → s.length ≤ 6 * i → P_fettlelaw4_NameTells_1 x0 x1 (iv a) (iv b) (iv c) x11 (sv s) (iv (i : Int)) M Q := by
  intro d
  induction d with
  | zero =>
    intro i s hi hs
    apply T_fettlelaw4_NameTells_1
    unfold S_fettlelaw4_NameTells_1
    have fin := nt_tail (a := a) (b := b) (c := c) hr (show s.length ≤ 60 by omega) hQ hT h0
    rw [hz.len, OP_some, lss_n, BR_dec]
    split
    · rw [lss_l 8 8 rfl, BR_dec, if_neg (by omega)]; exact fin
    · exact fin
  | succ d ih =>
    intro i s hi hs
    apply T_fettlelaw4_NameTells_1
    unfold S_fettlelaw4_NameTells_1
    rw [hz.len, OP_some, lss_n, BR_dec, if_pos (by omega), lss_l 8 8 rfl, BR_dec, if_pos (by omega)]
    apply T_fettlelaw4_NameTells_2
    unfold S_fettlelaw4_NameTells_2
    have hzi : i < zs.length := by omega
    obtain ⟨p, e1, e2⟩ := hz.at hzi .i64
    rw [e1, OP_some, e2, OP_some]
    have ea := e_andN zs[i] 15 (by decide)
    show OP (binI .and (.int .i64 zs[i]) (.int .i64 ((15 : Nat) : Int))) _
    rw [ea, OP_some]
    have hk : andN zs[i] 15 < pieces4.length := by have := andN_le zs[i] 15 (by decide); show _ < 16; omega
    obtain ⟨p3, g1, g2⟩ := h11.at hk .i64
    rw [g1, OP_some, g2, OP_some]
    have hpc := pieces4_len _ (List.getElem_mem hk)
    rw [sv_add _ _ (by omega), add1_n _ (by omega)]
    exact ih (i + 1) _ (by omega) (by simp; omega)
end
theorem NameTells_ok {M : Store} (hT : Tb M) {x0 x1 : Value} {raw : List UInt8} {zs : List Int} {a b c : Int} (h0 : B M x0 raw) (hz : LV iv Ty.int M x1 zs) : R F.fettlelaw4_NameTells #[x0, x1, iv a, iv b, iv c] M fun v M' => v = tv true := by
  refine R.cps fun Q hQ => ?_
  apply T_fettlelaw4_NameTells
  unfold S_fettlelaw4_NameTells
  rw [by_len h0, gtr_l 60 60 rfl, BR_dec]
  split
  · exact awake4_ok ⟨rfl, hQ _ _ rfl⟩
  · rename_i hr
    rw [pieces4_lit]
    refine s_lit (s := 1) rfl fun M1 u1 hN o1 n1 => ?_
    exact nt_text (by omega) (fun M => hQ _ M rfl) (hT.up u1) (Sl.up h0 u1) (hz.up u1) hN.sl (min zs.length 8) 0 [] (by omega) (by simp)
theorem Tb_MT (x y : TypeId) {M : Store} (h : Up (MT x y) M) : Tb M := Tb.up (M := MT x y) ⟨rfl, rfl, rfl⟩ h
end Go.G
