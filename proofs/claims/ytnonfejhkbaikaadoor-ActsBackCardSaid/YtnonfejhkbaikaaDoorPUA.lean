/- Layer 6: one thing of its words. Layer 6: one thing of its words, by the program. Layer 6: an action of its words, by the program. Layer 6: an action of its words, by the program: the walk. -/
import Derived.Test.YtnonfejhkbaikaaDoorPA6b
import Derived.Test.YtnonfejhkbaikaaDoorPQ6c
import Derived.Test.YtnonfejhkbaikaaDoorPGG
import Derived.Test.YtnonfejhkbaikaaDoorPAW
import Derived.Test.YtnonfejhkbaikaaDoorPTB
import Derived.Lib.AtoiAllCases
namespace Go.G
open Go.Ab Go.Proofs Go.RowKit
set_option linter.unusedVariables false
set_option linter.unusedSimpArgs false
set_option maxRecDepth 100000

/-- The tables lie there. -/
structure Tb6 (M : Store) : Prop where
  pow : isPow (M.get 2) = true
  e0 : isErr (M.get 0) = true
  e1 : isErr (M.get 1) = true
theorem isPow_lt6 {M : Store} {i : Nat} (h : isPow (M.get i) = true) : i < M.n := by
  cases hg : M.get i with
  | none => rw [hg] at h; cases h
  | some x => exact M.lt_of_get hg
theorem isErr_lt6 {M : Store} {i : Nat} (h : isErr (M.get i) = true) : i < M.n := by
  cases hg : M.get i with
  | none => rw [hg] at h; cases h
  | some x => exact M.lt_of_get hg
theorem Tb6.up {M M' : Store} (h : Tb6 M) (k : Up M M') : Tb6 M' :=
  ⟨by rw [Ch.get k 2 (isPow_lt6 h.pow) (by simp)]; exact h.pow, by rw [Ch.get k 0 (isErr_lt6 h.e0) (by simp)]; exact h.e0, by rw [Ch.get k 1 (isErr_lt6 h.e1) (by simp)]; exact h.e1⟩
theorem Tb6_MT (x y : TypeId) {M : Store} (h : Up (MT x y) M) : Tb6 M := Tb6.up (M := MT x y) ⟨rfl, rfl, rfl⟩ h

/-! ## numbers -/
theorem Itoa6 {M : Store} (hT : Tb6 M) {n : Int} (h0 : -9223372036854775808 ≤ n) (h1 : n ≤ 9223372036854775807) {Q : Value → Store → Prop} (hQ : Q (sv (Lib.itoa n)) M) : R F.strconv_Itoa #[iv n] M Q := by
  refine R_told (g := itoaB) (v := sv (Lib.itoa n)) (M' := M) (by kernel_rfl) ?_ hQ
  show (bif decide (0 ≤ n) && decide (n < 100) then some (Value.string ⟨(dec n).toArray⟩, M)
    else bif decide (-9223372036854775808 ≤ n) && decide (n ≤ 9223372036854775807) && isPow (M.get 2) then some (.string ⟨(dec n).toArray⟩, M) else none) = _
  rw [dec_eq h0 h1, hT.pow, decide_eq_true h0, decide_eq_true h1]
  cases decide (0 ≤ n) && decide (n < 100) <;> rfl
theorem Atoi6 {M : Store} (hT : Tb6 M) {x : List UInt8} (hx : x.length ≤ 2 ^ 40) {Q : Value → Store → Prop} (hok : ∀ v, Lib.atoiAll x = .ok v → Q (.tuple #[iv v, .nilIface]) M) (hno : (∀ v, Lib.atoiAll x ≠ .ok v) → ∀ z t p, Q (.tuple #[iv z, .iface t p]) M) : R F.strconv_Atoi #[sv x] M Q := by
  have hb : Nat.ble (⟨x.toArray⟩ : ByteArray).size 281474976710656 = true := Nat.ble_eq_true_of_le (show x.length ≤ _ by omega)
  have key : ∃ r, atoiB #[sv x] M = some (r, M) ∧ Q r M := by
    show ∃ r, (bif Nat.ble (⟨x.toArray⟩ : ByteArray).size 281474976710656 then
      match Lib.atoiAll x with
      | .ok v => some (Value.tuple #[.int .i64 v, .nilIface], M)
      | .syntax => bif isErr (M.get 0) then some (.tuple #[.int .i64 0, .iface 107 (.pointer (some ⟨0, 0, some 0⟩))], M) else none
      | .range => bif isErr (M.get 1) then some (.tuple #[.int .i64 (Lib.atoiSat x), .iface 107 (.pointer (some ⟨0, 0, some 0⟩))], M) else none
    else none) = some (r, M) ∧ Q r M
    rw [hb, cond_true, hT.e0, hT.e1]
    cases ha : Lib.atoiAll x with
    | ok v => exact ⟨_, rfl, hok v ha⟩
    | «syntax» => exact ⟨_, rfl, hno (fun v h => by rw [ha] at h; cases h) _ _ _⟩
    | range => exact ⟨_, rfl, hno (fun v h => by rw [ha] at h; cases h) _ _ _⟩
  obtain ⟨r, he, hq⟩ := key
  exact R_told (g := atoiB) (by kernel_rfl) he hq
theorem num_ok {M : Store} (hT : Tb6 M) {x : List UInt8} (hx : x.length ≤ 2 ^ 40) {Q : Value → Store → Prop} (hQ : Q (iv (numA x)) M) : R F.acts_num #[sv x] M Q := by
  apply T_acts_num
  unfold S_acts_num
  refine Atoi6 hT hx (fun v hv => ?_) (fun hn z t p => ?_)
  · obtain ⟨b1, b2⟩ := Lib.atoiAll_bounds hv
    rw [(tp2 _ _).1, (tp2 _ _).2]
    rw [show abin Tryd.prog true .neq Ty.error_t .nilIface .nilIface = some (.bool false) from by kernel_rfl, OP_some, BR_false]
    refine Itoa6 hT b1 b2 ?_
    rw [sv_ne, BR_dec]
    unfold numA at hQ
    rw [hv] at hQ
    simp only at hQ
    split
    · rename_i h
      rw [if_neg h] at hQ
      exact ⟨rfl, hQ⟩
    · rename_i h
      rw [if_pos (Decidable.not_not.1 h)] at hQ
      exact ⟨rfl, hQ⟩
  · rw [(tp2 _ _).1, (tp2 _ _).2]
    rw [show abin Tryd.prog true .neq Ty.error_t (.iface t p) .nilIface = some (.bool true) from by kernel_rfl, OP_some, BR_true]
    have hm : numA x = -1 := by
      unfold numA
      cases ha : Lib.atoiAll x with
      | ok v => exact absurd ha (hn v)
      | «syntax» => rfl
      | range => rfl
    rw [hm] at hQ
    exact ⟨rfl, hQ⟩

/-! ## the words -/
theorem words_ok {M : Store} {Q : Value → Store → Prop} (hQ : ∀ v M', Up M M' → LV sv Ty.string M' v wordsA → Q v M') : R F.acts_words #[] M Q := by
  apply T_acts_words
  unfold S_acts_words
  rw [show bldL (.string ⟨#[]⟩) 1 12 [(0, (.string ⟨#[]⟩)), (1, (.string ⟨#[116, 101, 120, 116]⟩)), (2, (.string ⟨#[105, 110]⟩)), (3, (.string ⟨#[97, 108, 108]⟩)), (4, (.string ⟨#[117, 112, 112, 101, 114]⟩)), (5, (.string ⟨#[108, 111, 119, 101, 114]⟩)), (6, (.string ⟨#[114, 101, 118]⟩)), (7, (.string ⟨#[116, 97, 107, 101]⟩)), (8, (.string ⟨#[100, 114, 111, 112]⟩)), (9, (.string ⟨#[116, 119, 105, 99, 101]⟩)), (10, (.string ⟨#[106, 111, 105, 110]⟩)), (11, (.string ⟨#[102, 97, 105, 108]⟩))] = some (wordsA.map sv) from by kernel_rfl, OP_some]
  refine s_lit (s := 1) (n := 12) rfl fun M1 u1 h1 o1 n1 => ?_
  exact ⟨rfl, hQ _ _ u1 h1.sl⟩
theorem index_loop {M : Store} {v : Value} {xs : List (List UInt8)} (h : LV sv Ty.string M v xs) (hl : xs.length ≤ 2 ^ 40) {t : List UInt8} {Q : Value → Store → Prop} :
    ∀ (k i : Nat), k + i = xs.length → Q (iv (idxA t i (xs.drop i))) M → P_slices_Index_sl_string_string_1 v (sv t) (iv (xs.length : Int)) (iv (i : Int)) M Q := by
  intro k
  induction k with
  | zero =>
    intro i hi hQ
    apply T_slices_Index_sl_string_string_1
    unfold S_slices_Index_sl_string_string_1
    rw [lss_n, BR_dec, if_neg (by omega)]
    apply T_slices_Index_sl_string_string_2
    unfold S_slices_Index_sl_string_string_2
    rw [List.drop_of_length_le (by omega)] at hQ
    exact ⟨rfl, hQ⟩
  | succ k ih =>
    intro i hi hQ
    apply T_slices_Index_sl_string_string_1
    unfold S_slices_Index_sl_string_string_1
    have hil : i < xs.length := by omega
    rw [lss_n, BR_dec, if_pos hil]
    obtain ⟨p, e1, e2⟩ := h.at hil .i64
    show OP (ixA 1 v (.int .i64 (i : Int))) _
    rw [e1, OP_some, e2, OP_some]
    show OP (binS .eql (sv t) (sv xs[i])) _
    rw [sv_eq, BR_dec]
    rw [List.drop_eq_getElem_cons hil, idxA] at hQ
    split
    · rename_i e
      rw [if_pos e] at hQ
      exact ⟨rfl, hQ⟩
    · rename_i e
      rw [if_neg e] at hQ
      rw [add1_n _ (by omega)]
      exact ih (i + 1) (by omega) hQ
theorem Index_ok {M : Store} {v : Value} {xs : List (List UInt8)} (h : LV sv Ty.string M v xs) (hl : xs.length ≤ 2 ^ 40) {t : List UInt8} {Q : Value → Store → Prop} (hQ : Q (iv (idxA t 0 xs)) M) : R F.slices_Index_sl_string_string #[v, sv t] M Q := by
  apply T_slices_Index_sl_string_string
  unfold S_slices_Index_sl_string_string
  rw [h.len, OP_some]
  exact index_loop h hl xs.length 0 rfl hQ
end Go.G

namespace Go.G
open Go.Ab Go.Proofs Go.RowKit
set_option linter.unusedVariables false
set_option linter.unusedSimpArgs false
set_option maxRecDepth 100000

def wws (w : Ww) : List Value := [sv w.1, iv w.2.1, iv w.2.2.1, tv w.2.2.2]
theorem wws_len (w : Ww) : (wws w).length = 4 := rfl
abbrev WW (M : Store) (v : Value) (ws : List Ww) : Prop := LK 4 wws Ty.api_Word M v ws
theorem ww_fld {M : Store} {v : Value} {ws : List Ww} (h : WW M v ws) {i : Nat} (hi : i < ws.length) {f : Nat} {w : Value} (hf : (wws ws[i])[f]? = some w) (K : Value → Prop) : (OP (ixA 4 v (iv (i : Int))) fun p => OP (fad f p) fun p => OP (ld 1 false p M) K) = K w := by
  obtain ⟨b, o, e1, e2⟩ := LK.fld wws_len h hi hf .i64
  show (OP (ixA 4 v (.int .i64 (i : Int))) fun p => OP (fad f p) fun p => OP (ld 1 false p M) K) = _
  rw [e1, OP_some, e_fad, e2, OP_some]
/-- What is touched was made in the region, by a step ahead. -/
theorem Ch.tdx2 {M M' : Store} {b : Nat} {cells : List Value} {T : TypeId} (h : Ch [b] M M') (o : Ob M b cells T) {bs Ns : List Nat} {i j : Nat} (hj : j < i) (ht : (bs.getD i 0).testBit j = true) (h1 : Ns.getD j 0 ≤ b) (h2 : b < Ns.getD (j + 1) 0) : TDx bs Ns i M M' :=
  ⟨h.n, fun c hc => by
    rcases h.tdiff c hc with hc | hc
    · exact .inl hc
    · have : c = b := by simpa using hc
      subst this
      refine .inr ⟨by rw [show M.get c = _ from o]; rfl, ?_⟩
      unfold accB
      rw [Bool.or_eq_true]
      refine .inr (List.any_eq_true.2 ⟨j, List.mem_range.2 hj, ?_⟩)
      rw [ht, decide_eq_true h1, decide_eq_true h2]; rfl⟩
theorem bs_do0 : bldS #[(.int .i64 0), (.int .i64 0), (.string ⟨#[]⟩)] [(0, 1), (1, 1), (2, 1)] [] = some (.agg [iv 0, iv 0, sv []].toArray) := by kernel_rfl
/-- What one thing's words come to. -/
def OneR (r : Value) : Option Dw → Prop
  | none => ∃ d : Dw, r = .tuple #[dv d, .bool false]
  | some d => r = .tuple #[dv d, .bool true]
theorem dv_nts (d : Dw) (b : Bool) : NTs [dv d, .bool b] := by obtain ⟨a, c, e⟩ := d; rfl
theorem oneA_cons (w : Ww) (r : List Ww) (hq : ¬ w.2.2.2 = true) : oneA (w :: r) = (if textA (kindA w.1) then (match r with
      | [x] => if x.2.2.2 then (some (kindA w.1, 0, x.1) : Option Dw) else none
      | _ => none)
    else if 0 ≤ topA (kindA w.1) then (match r with
      | [x] => if x.2.2.2 then none else (some (kindA w.1, numA x.1, []) : Option Dw)
      | _ => none)
    else if r = [] then (some (kindA w.1, 0, []) : Option Dw) else none) := by
  simp only [oneA]; rw [if_neg hq]; rfl
theorem one_ok {M : Store} (hT : Tb6 M) {v : Value} {ws : List Ww} (h : WW M v ws) (hw : ∀ w ∈ ws, w.1.length ≤ 2 ^ 40) (hwl : ws.length ≤ 2 ^ 40) : R F.acts_one #[v] M fun r M' => Up M M' ∧ OneR r (oneA ws) := by
  refine R.cps fun Q hQ => ?_
  apply T_acts_one
  unfold S_acts_one
  refine s_new fun M1 u1 oA n1 => ?_
  have bad : ∀ (M' : Store), Up M M' → Ob M' M.n [iv 0, iv 0, sv []] Ty.api_Do → oneA ws = none →
      OP (bldS #[(.int .i64 0), (.int .i64 0), (.string ⟨#[]⟩)] [(0, 1), (1, 1), (2, 1)] []) fun t14 => OP (st 3 (.pointer (some ⟨M.n, 0, none⟩)) t14 M') fun M2 => OP (ld 3 true (.pointer (some ⟨M.n, 0, none⟩)) M2) fun r2 => NTs [r2, (.bool false)] ∧ Q (.tuple #[r2, (.bool false)]) M2 := by
    intro M' hu o he
    rw [bs_do0, OP_some]
    refine s_st (vs := [iv 0, iv 0, sv []]) o rfl rfl rfl fun M2 c2 o2 n2 => ?_
    rw [o2.ldA (s := 3) rfl, OP_some]
    exact ⟨rfl, hQ _ _ ⟨hu.ch c2 (by simp), by rw [he]; exact ⟨(0, 0, []), rfl⟩⟩⟩
  have good : ∀ (M' : Store) (d : Dw) (b : Nat), Up M M' → Ob M' M.n [iv 0, iv 0, sv []] Ty.api_Do → Ob M' b (dcs d) Ty.api_Do → oneA ws = some d →
      OP (ld 3 true (.pointer (some ⟨b, 0, none⟩)) M') fun t69 => OP (st 3 (.pointer (some ⟨M.n, 0, none⟩)) t69 M') fun M12 => OP (ld 3 true (.pointer (some ⟨M.n, 0, none⟩)) M12) fun r2 => NTs [r2, (.bool true)] ∧ Q (.tuple #[r2, (.bool true)]) M12 := by
    intro M' d b hu o o' he
    rw [o'.ldA (s := 3) rfl, OP_some]
    refine s_st (vs := dcs d) o rfl rfl (dcs_one d) fun M2 c2 o2 n2 => ?_
    rw [o2.ldA (s := 3) rfl, OP_some]
    exact ⟨dv_nts d true, hQ _ _ ⟨hu.ch c2 (by simp), by rw [he]; rfl⟩⟩
  have oA : Ob M1 M.n [iv 0, iv 0, sv []] Ty.api_Do := oA
  rw [h.len, OP_some]
  show OP (binI .eql (iv (ws.length : Int)) _) _
  rw [eql_l 0 0 rfl, BR_dec]
  split
  · rename_i h0
    have : ws = [] := List.length_eq_zero_iff.1 h0
    exact bad M1 u1 oA (by rw [this]; rfl)
  rename_i h0
  have hlen : 0 < ws.length := by omega
  show OP (ixA 4 v (iv ((0 : Nat) : Int))) _
  rw [ww_fld (h.up u1) hlen (f := 3) (w := tv ws[0].2.2.2) rfl]
  obtain ⟨w, r, rfl⟩ : ∃ w r, ws = w :: r := by
    cases ws with
    | nil => simp at hlen
    | cons w r => exact ⟨w, r, rfl⟩
  show BR (.bool w.2.2.2) _ _
  rw [BR_bool]
  split
  · rename_i hq
    exact bad M1 u1 oA (by simp only [oneA]; rw [if_pos hq])
  rename_i hq
  have hone := oneA_cons w r hq
  refine words_ok fun t15 M4 u4 hL => ⟨u4.tdj _ _, ?_⟩
  have hu4 := u1.trans u4
  show OP (ixA 4 v (iv ((0 : Nat) : Int))) _
  rw [ww_fld (h.up hu4) hlen (f := 0) (w := sv w.1) rfl]
  refine Index_ok hL (by decide) ⟨Up.tdx (Ch.refl _ _) _ _ _, ?_⟩
  show OP (amax2 (.int .i64 (idxA w.1 0 wordsA)) (.int .i64 0)) _
  rw [e_max]
  show OP (bldS _ _ [(0, iv (kindA w.1))]) _
  generalize kindA w.1 = k at *
  rw [bs_do, OP_some]
  refine s_new fun M6 u6 oB n6 => ?_
  refine s_st (vs := [iv k, iv 0, sv []]) oB rfl rfl rfl fun M7 c7 oB7 n7 => ⟨Ch.tdx2 c7 oB (j := 8) (by omega) (by decide) (Nat.le_refl _) (show M4.n < M6.n by omega), ?_⟩
  have u47 : Up M4 M7 := u6.ch c7 (by simp)
  have hu7 := hu4.trans u47
  have oA7 : Ob M7 M.n [iv 0, iv 0, sv []] Ty.api_Do := (oA.up u4).up u47
  have hne : M.n ≠ M4.n := by have := u4.n; omega
  simp only [fad0, oB7.l3]
  refine atext_ok ?_
  simp only [fad0, oB7.l3]
  rw [BR_bool]
  split
  · rename_i ht
    rw [if_pos ht] at hone
    rw [OP_some]
    show OP (binI .neq (iv ((w :: r).length : Int)) _) _
    rw [neq_l 2 2 rfl, BR_dec]
    split
    · rename_i h2
      refine bad M7 hu7 oA7 ?_
      rw [hone]
      match r, h2 with
      | [], _ => rfl
      | [x], h2 => exact absurd rfl h2
      | _ :: _ :: _, _ => rfl
    · rename_i h2
      obtain ⟨x, rfl⟩ : ∃ x, r = [x] := by
        match r, h2 with
        | [], h2 => exact absurd (by simp) h2
        | [x], _ => exact ⟨x, rfl⟩
        | _ :: _ :: _, h2 => exact absurd (by simp) h2
      show OP (ixA 4 v (iv ((1 : Nat) : Int))) _
      rw [ww_fld (h.up hu7) (by simp) (f := 3) (w := tv x.2.2.2) rfl, e_not, BR_bool]
      split
      · rename_i hx
        exact bad M7 hu7 oA7 (by rw [hone]; simp only; rw [if_neg (by simpa using hx)])
      · rename_i hx
        show OP (ixA 4 v (iv ((1 : Nat) : Int))) _
        rw [ww_fld (h.up hu7) (by simp) (f := 0) (w := sv x.1) rfl]
        refine s_st1 (i := 2) oB7 (by simp) rfl rfl fun M11 c11 o11 n11 => ?_
        exact good M11 (k, 0, x.1) M4.n (hu7.ch c11 (by simpa using hu4.n)) (oA7.fr c11 (by simpa using hne)) o11 (by rw [hone]; simp only; rw [if_pos (by simpa using hx)])
  · rename_i ht
    rw [if_neg ht] at hone
    refine atop_ok ?_
    show OP (binI .geq (.int .i64 (topA k)) (.int .i64 0)) _
    rw [e_geq, BR_dec]
    split
    · rename_i hp
      rw [if_pos hp] at hone
      rw [OP_some]
      show OP (binI .neq (iv ((w :: r).length : Int)) _) _
      rw [neq_l 2 2 rfl, BR_dec]
      split
      · rename_i h2
        refine bad M7 hu7 oA7 ?_
        rw [hone]
        match r, h2 with
        | [], _ => rfl
        | [x], h2 => exact absurd rfl h2
        | _ :: _ :: _, _ => rfl
      · rename_i h2
        obtain ⟨x, rfl⟩ : ∃ x, r = [x] := by
          match r, h2 with
          | [], h2 => exact absurd (by simp) h2
          | [x], _ => exact ⟨x, rfl⟩
          | _ :: _ :: _, h2 => exact absurd (by simp) h2
        show OP (ixA 4 v (iv ((1 : Nat) : Int))) _
        rw [ww_fld (h.up hu7) (by simp) (f := 3) (w := tv x.2.2.2) rfl]
        show BR (.bool x.2.2.2) _ _
        rw [BR_bool]
        split
        · rename_i hx
          exact bad M7 hu7 oA7 (by rw [hone]; simp only; rw [if_pos hx])
        · rename_i hx
          show OP (ixA 4 v (iv ((1 : Nat) : Int))) _
          rw [ww_fld (h.up hu7) (by simp) (f := 0) (w := sv x.1) rfl]
          refine num_ok (hT.up hu7) (hw x (by simp)) ?_
          refine s_st1 (i := 1) oB7 (by simp) rfl rfl fun M11 c11 o11 n11 => ?_
          exact good M11 (k, numA x.1, []) M4.n (hu7.ch c11 (by simpa using hu4.n)) (oA7.fr c11 (by simpa using hne)) o11 (by rw [hone]; simp only; rw [if_neg hx])
    · rename_i hp
      rw [if_neg hp] at hone
      rw [OP_some]
      show OP (binI .neq (iv ((w :: r).length : Int)) _) _
      rw [neq_l 1 1 rfl, BR_dec]
      split
      · rename_i h2
        refine bad M7 hu7 oA7 ?_
        rw [hone, if_neg (fun e => h2 (by rw [e]; rfl))]
      · rename_i h2
        refine good M7 (k, 0, []) M4.n hu7 oA7 oB7 ?_
        rw [hone, if_pos]
        have : (w :: r).length = 1 := Decidable.not_not.1 h2
        simpa using this
end Go.G

namespace Go.G
open Go.Ab Go.Proofs Go.RowKit
set_option linter.unusedVariables false
set_option linter.unusedSimpArgs false
set_option maxRecDepth 100000

/-- A word that stands between two things. -/
def semiA (w : Ww) : Bool := decide (w.1 = [59]) && !w.2.2.2
def finA (out : List Dw) : Option (List Dw) := if okA out then some out else none
/-- An action of its words. -/
def parseA : Nat → List Ww → List Dw → Option (List Dw)
  | 0, _, _ => none
  | k + 1, ws, acc => match oneA (ws.takeWhile fun w => !semiA w) with
    | none => none
    | some d => match ws.dropWhile fun w => !semiA w with
      | [] => finA (acc ++ [d])
      | _ :: r => parseA k r (acc ++ [d])
theorem wv_box (w : Ww) : boxv (.agg (wws w).toArray) = some (wws w) := by obtain ⟨a, b, c, d⟩ := w; kernel_rfl
theorem semi_ok {M : Store} {w : Ww} {Q : Value → Store → Prop} (hQ : ∀ M', Up M M' → Q (tv (semiA w)) M') : R F.acts_Parse_c1 #[.agg (wws w).toArray] M Q := by
  apply T_acts_Parse_c1
  unfold S_acts_Parse_c1
  rw [wv_box, OP_some]
  refine s_new fun M1 u1 o1 n1 => ?_
  have o1 : Ob M1 M.n [sv w.1, iv w.2.1, iv w.2.2.1, tv w.2.2.2] Ty.api_Word := o1
  simp only [fad0, o1.l4]
  have hQ := hQ M1 u1
  unfold semiA at hQ
  show OP (binS .eql (sv w.1) (sv [59])) _
  rw [sv_eq, BR_dec]
  split
  · rename_i h
    rw [decide_eq_true h, Bool.true_and] at hQ
    rw [e_not]
    exact ⟨rfl, hQ⟩
  · rename_i h
    rw [decide_eq_false h, Bool.false_and] at hQ
    exact ⟨rfl, hQ⟩
theorem ww_ld {M : Store} {v : Value} {ws : List Ww} (h : WW M v ws) {i : Nat} (hi : i < ws.length) (K : Value → Prop) : (OP (ixA 4 v (iv (i : Int))) fun p => OP (ld 4 true p M) K) = K (.agg (wws ws[i]).toArray) := by
  obtain ⟨p, e1, e2⟩ := LK.at wws_len h hi .i64
  show (OP (ixA 4 v (.int .i64 (i : Int))) fun p => OP (ld 4 true p M) K) = _
  rw [e1, OP_some, e2 true]; rfl
/-- Where the first such word stands. -/
def semiI (i : Nat) : List Ww → Int
  | [] => -1
  | w :: r => if semiA w then (i : Int) else semiI (i + 1) r
theorem idxf_loop {M0 : Store} {v : Value} {ws : List Ww} (h : WW M0 v ws) (hl : ws.length ≤ 2 ^ 40) {Q : Value → Store → Prop} :
    ∀ (k i : Nat) (M : Store), k + i = ws.length → Up M0 M → (∀ M', Up M0 M' → Q (iv (semiI i (ws.drop i))) M') → P_slices_IndexFunc_sl_api_Word_api_Word_1 v (.func (.func F.acts_Parse_c1) #[] #[]) (iv (ws.length : Int)) (iv (i : Int)) M Q := by
  intro k
  induction k with
  | zero =>
    intro i M hi hu hQ
    apply T_slices_IndexFunc_sl_api_Word_api_Word_1
    unfold S_slices_IndexFunc_sl_api_Word_api_Word_1
    rw [lss_n, BR_dec, if_neg (by omega)]
    apply T_slices_IndexFunc_sl_api_Word_api_Word_2
    unfold S_slices_IndexFunc_sl_api_Word_api_Word_2
    rw [List.drop_of_length_le (by omega)] at hQ
    exact ⟨rfl, hQ M hu⟩
  | succ k ih =>
    intro i M hi hu hQ
    apply T_slices_IndexFunc_sl_api_Word_api_Word_1
    unfold S_slices_IndexFunc_sl_api_Word_api_Word_1
    have hil : i < ws.length := by omega
    rw [lss_n, BR_dec, if_pos hil, ww_ld (Sl.up h hu) hil]
    rw [List.drop_eq_getElem_cons hil] at hQ
    show R F.acts_Parse_c1 #[.agg (wws ws[i]).toArray] M _
    refine semi_ok fun M' u' => ?_
    rw [BR_bool]
    simp only [semiI] at hQ
    split
    · rename_i hs
      rw [if_pos hs] at hQ
      exact ⟨rfl, hQ M' (hu.trans u')⟩
    · rename_i hs
      rw [if_neg hs] at hQ
      rw [add1_n _ (by omega)]
      exact ih (i + 1) M' (by omega) (hu.trans u') hQ
theorem IndexFunc_ok {M : Store} {v : Value} {ws : List Ww} (h : WW M v ws) (hl : ws.length ≤ 2 ^ 40) {Q : Value → Store → Prop} (hQ : ∀ M', Up M M' → Q (iv (semiI 0 ws)) M') : R F.slices_IndexFunc_sl_api_Word_api_Word #[v, .func (.func F.acts_Parse_c1) #[] #[]] M Q := by
  apply T_slices_IndexFunc_sl_api_Word_api_Word
  unfold S_slices_IndexFunc_sl_api_Word_api_Word
  rw [h.len, OP_some]
  exact idxf_loop h hl ws.length 0 M rfl (Ch.refl _ _) hQ
theorem semiI_spec : ∀ (ws : List Ww) (i : Nat), semiI i ws = if (ws.dropWhile fun w => !semiA w) = [] then -1 else ((i + (ws.takeWhile fun w => !semiA w).length : Nat) : Int)
  | [], i => rfl
  | w :: r, i => by
    rw [semiI, semiI_spec r (i + 1)]
    cases hs : semiA w with
    | true => simp [hs]
    | false =>
      simp only [Bool.false_eq_true, if_false, List.dropWhile_cons, List.takeWhile_cons, hs, Bool.not_false, if_true, List.length_cons]
      split
      · rfl
      · congr 1; omega
theorem semiI_none {ws : List Ww} (h : (ws.dropWhile fun w => !semiA w) = []) : semiI 0 ws = -1 ∧ (ws.takeWhile fun w => !semiA w) = ws := by
  refine ⟨by rw [semiI_spec, if_pos h], ?_⟩
  have := List.takeWhile_append_dropWhile (p := fun w => !semiA w) (l := ws)
  rw [h, List.append_nil] at this
  exact this
end Go.G

namespace Go.G
open Go.Ab Go.Proofs Go.RowKit
set_option linter.unusedVariables false
set_option linter.unusedSimpArgs false
set_option maxRecDepth 100000

theorem oneA_text {ws : List Ww} {d : Dw} {m : Nat} (h : oneA ws = some d) (hw : ∀ w ∈ ws, w.1.length ≤ m) : d.2.2.length ≤ m := by
  match ws, h, hw with
  | [], h, _ => cases h
  | w :: r, h, hw =>
    by_cases hq : w.2.2.2 = true
    · simp only [oneA] at h; rw [if_pos hq] at h; cases h
    · rw [oneA_cons w r hq] at h
      split at h
      · match r, h, hw with
        | [], h, _ => cases h
        | [x], h, hw =>
          simp only at h
          split at h
          · injection h with h; subst h; exact hw x (by simp)
          · cases h
        | _ :: _ :: _, h, _ => cases h
      · split at h
        · match r, h with
          | [], h => cases h
          | [x], h =>
            simp only at h
            split at h
            · cases h
            · injection h with h; subst h; simp
          | _ :: _ :: _, h => cases h
        · split at h
          · injection h with h; subst h; simp
          · cases h
/-- What an action's words come to. -/
def ParseR (M0 M : Store) (r : Value) : Option (List Dw) → Prop
  | none => r = .tuple #[.slice none 0 0, .bool false]
  | some l => ∃ w, r = .tuple #[w, .bool true] ∧ NDS M0 M w l
section
variable {M0 : Store} {v : Value} {ws : List Ww} {o : Option (List Dw)} {Q : Value → Store → Prop}
theorem parse_end (hQ : ∀ r M, Up M0 M → ParseR M0 M r o → Q r M) {M : Store} {x4 : Value} {acc : List Dw} (hu : Up M0 M) (hN : NDS M0 M x4 acc) (hl : acc.length ≤ 2 ^ 30) (hs : ∀ d ∈ acc, d.2.2.length ≤ 2 ^ 40) (ho : finA acc = o) : P_acts_Parse_3 x4 M Q := by
  apply T_acts_Parse_3
  unfold S_acts_Parse_3
  unfold finA at ho
  refine (Aok_ok hN.lv (by omega) hs).mono fun r M1 ⟨u1, hr⟩ => ?_
  subst hr
  rw [e_not, BR_bool]
  split
  · rename_i h
    rw [if_neg (by simpa using h)] at ho
    exact ⟨rfl, hQ _ _ (hu.trans u1) (by rw [← ho]; rfl)⟩
  · rename_i h
    rw [if_pos (by simpa using h)] at ho
    have hN1 := Nw.up hN u1
    apply T_slices_Clip_sl_api_Do_api_Do
    obtain ⟨v', e, h'⟩ := slM_full (M := M1) hN1
    unfold S_slices_Clip_sl_api_Do_api_Do
    rw [hN1.sl.lenV]
    simp only [ev, e]
    refine ⟨nts_of h'.sl, ?_, hQ _ _ (hu.trans u1) (by rw [← ho]; exact ⟨v', rfl, h'⟩)⟩
    obtain ⟨a, c, rfl⟩ := h'.sl.slice
    rfl
theorem parse_loop (hT : Tb6 M0) (h : WW M0 v ws) (hl : ws.length ≤ 2 ^ 20) (hw : ∀ w ∈ ws, w.1.length ≤ 2 ^ 30) (hQ : ∀ r M, Up M0 M → ParseR M0 M r o → Q r M) :
    ∀ (k from_ : Nat) (acc : List Dw) (x4 : Value) (M : Store), from_ ≤ ws.length → ws.length - from_ < k → Up M0 M → NDS M0 M x4 acc → acc.length ≤ from_ → (∀ d ∈ acc, d.2.2.length ≤ 2 ^ 40) → parseA k (ws.drop from_) acc = o →
      P_acts_Parse_1 v x4 (iv (from_ : Int)) M Q := by
  intro k
  induction k with
  | zero => intro _ _ _ _ _ h; omega
  | succ k ih =>
    intro from_ acc x4 M hf hk hu hN hal hat ho
    apply T_acts_Parse_1
    unfold S_acts_Parse_1
    rw [(Sl.up h hu).lenV, OP_some]
    show OP (binI .leq (iv (from_ : Int)) (iv (ws.length : Int))) _
    rw [leq_n, BR_dec, if_pos hf]
    apply T_acts_Parse_2
    unfold S_acts_Parse_2
    have hu0 : WW M v ws := Sl.up h hu
    obtain ⟨v1, e1, h1⟩ := LK.cut wws_len hu0 (lo := some (.int .i64 (from_ : Int))) (hi := none) (a := from_) (r := ws.length) rfl (by simp only [abound]; rw [if_pos ⟨by omega, by omega⟩]; rfl) (Nat.le_refl _) hf
    rw [List.take_length] at h1
    show OP (slV 4 Ty.api_Word v (some (.int .i64 (from_ : Int))) none M) _
    rw [e1, OP_some]
    refine IndexFunc_ok h1 (by rw [List.length_drop]; omega) fun M1 u1 => ?_
    have hu1 := hu.trans u1
    rw [(Sl.up h hu1).lenV, OP_some]
    -- the segment
    have hseg : ∀ (to : Nat), from_ ≤ to → to ≤ ws.length → (ws.take to).drop from_ = (ws.drop from_).takeWhile (fun w => !semiA w) →
        (∀ d, oneA ((ws.drop from_).takeWhile fun w => !semiA w) = some d → ∀ (x4' : Value) (M' : Store), Up M0 M' → NDS M0 M' x4' (acc ++ [d]) → (∀ e ∈ acc ++ [d], e.2.2.length ≤ 2 ^ 40) → P_acts_Parse_1 v x4' (iv ((to + 1 : Nat) : Int)) M' Q) →
        P_acts_Parse_4 v x4 (iv (from_ : Int)) (iv (to : Int)) M1 Q := by
      intro to h1 h2 hs hgo
      apply T_acts_Parse_4
      unfold S_acts_Parse_4
      have hu0 : WW M1 v ws := Sl.up h hu1
      obtain ⟨v2, e2, g2⟩ := LK.cut wws_len hu0 (lo := some (.int .i64 (from_ : Int))) (hi := some (.int .i64 (to : Int))) (a := from_) (r := to) (by simp only [abound]; rw [if_pos ⟨by omega, by omega⟩]; rfl) (by simp only [abound]; rw [if_pos ⟨by omega, by omega⟩]; rfl) h2 h1
      show OP (slV 4 Ty.api_Word v (some (.int .i64 (from_ : Int))) (some (.int .i64 (to : Int))) M1) _
      rw [e2, OP_some]
      rw [hs] at g2
      have hsub : ∀ w ∈ (ws.drop from_).takeWhile (fun w => !semiA w), w ∈ ws := fun w hm => List.mem_of_mem_drop ((List.takeWhile_prefix _).subset hm)
      have hsl := (List.takeWhile_prefix (l := ws.drop from_) (fun w => !semiA w)).length_le
      rw [List.length_drop] at hsl
      refine (one_ok (hT.up hu1) g2 (fun w hm => by have := hw w (hsub w hm); omega) (by omega)).mono fun r M2 ⟨u2, hr⟩ => ?_
      rw [parseA] at ho
      cases hone : oneA ((ws.drop from_).takeWhile fun w => !semiA w) with
      | none =>
        rw [hone] at hr ho
        obtain ⟨d, rfl⟩ := hr
        rw [(tp2 _ _).1, (tp2 _ _).2]
        refine s_new fun M3 u3 o3 n3 => ?_
        refine s_st (vs := dcs d) o3 rfl rfl (dcs_one d) fun M4 c4 o4 n4 => ?_
        rw [e_not]
        show BR (.bool true) _ _
        rw [BR_true]
        exact ⟨rfl, hQ _ _ ((hu1.trans u2).trans (u3.ch c4 (by simp))) (by rw [← ho]; rfl)⟩
      | some d =>
        rw [hone] at hr
        have hr : r = .tuple #[dv d, .bool true] := hr
        subst hr
        rw [(tp2 _ _).1, (tp2 _ _).2]
        refine s_new fun M3 u3 o3 n3 => ?_
        refine s_st (vs := dcs d) o3 rfl rfl (dcs_one d) fun M4 c4 o4 n4 => ?_
        have hu4 := (hu1.trans u2).trans (u3.ch c4 (by simp))
        have hN4 : NDS M0 M4 x4 acc := Nw.up (Nw.up (Nw.up hN u1) u2) (u3.ch c4 (by simp))
        rw [e_not]
        show BR (.bool false) _ _
        rw [BR_false, o4.ldA (s := 3) rfl, OP_some]
        rw [show bldL (.agg #[(.int .i64 0), (.int .i64 0), (.string ⟨#[]⟩)]) 3 1 [(0, .agg (dcs d).toArray)] = some (dcs d) from bl_do d, OP_some, LT_eq]
        refine NK.app1 (M0 := M0) (Mb := M0) dcs_len hu4 (Nat.le_refl _) hu4.n hN4 d rfl (by omega) fun x4' M' hu' hN' _ _ => ?_
        rw [add1_n _ (by omega)]
        refine hgo d hone x4' M' hu' hN' fun e he => ?_
        rcases List.mem_append.1 he with he | he
        · exact hat e he
        · have : e = d := by simpa using he
          subst this
          have := oneA_text hone (m := 2 ^ 30) fun w hm => hw w (hsub w hm)
          omega
    have htd := List.takeWhile_append_dropWhile (p := fun w => !semiA w) (l := ws.drop from_)
    cases hdw : (ws.drop from_).dropWhile fun w => !semiA w with
    | nil =>
      obtain ⟨e0, e2⟩ := semiI_none hdw
      rw [e0]
      show OP (binI .geq (.int .i64 (-1)) (.int .i64 0)) _
      rw [e_geq, BR_dec, if_neg (by omega)]
      refine hseg ws.length hf (Nat.le_refl _) (by rw [List.take_length, e2]) fun d hone x4' M' hu' hN' hat' => ?_
      rw [parseA, hone] at ho
      simp only [hdw] at ho
      apply T_acts_Parse_1
      unfold S_acts_Parse_1
      rw [(Sl.up h hu').lenV, OP_some]
      show OP (binI .leq (iv ((ws.length + 1 : Nat) : Int)) (iv (ws.length : Int))) _
      rw [leq_n, BR_dec, if_neg (by omega)]
      exact parse_end hQ hu' hN' (by simp; omega) hat' ho
    | cons w r =>
      have hne : ¬ ((ws.drop from_).dropWhile fun w => !semiA w) = [] := by rw [hdw]; simp
      rw [semiI_spec, if_neg hne, Nat.zero_add]
      have hlen := congrArg List.length htd
      rw [hdw, List.length_append, List.length_cons, List.length_drop] at hlen
      generalize htl : ((ws.drop from_).takeWhile fun w => !semiA w).length = tl at *
      show OP (binI .geq (.int .i64 (tl : Int)) (.int .i64 0)) _
      rw [e_geq, BR_dec, if_pos (by omega), add_n _ _ (by omega)]
      have hwe : ws.drop (from_ + tl + 1) = r := by
        rw [Nat.add_assoc, ← List.drop_drop, ← htd, hdw, ← htl]
        simp
      refine hseg (from_ + tl) (by omega) (by omega) ?_ fun d hone x4' M' hu' hN' hat' => ?_
      · rw [List.drop_take, show from_ + tl - from_ = tl by omega]
        have : (ws.drop from_).take tl = ((ws.drop from_).takeWhile fun w => !semiA w) := by
          have e := List.take_left (l₁ := (ws.drop from_).takeWhile fun w => !semiA w) (l₂ := (ws.drop from_).dropWhile fun w => !semiA w)
          rw [htd, htl] at e
          exact e
        exact this
      · rw [parseA, hone] at ho
        simp only [hdw] at ho
        exact ih (from_ + tl + 1) (acc ++ [d]) x4' M' (by omega) (by omega) hu' hN' (by simp; omega) hat' (by rw [hwe]; exact ho)
end
theorem Parse_ok {M : Store} (hT : Tb6 M) {v : Value} {ws : List Ww} (h : WW M v ws) (hl : ws.length ≤ 2 ^ 20) (hw : ∀ w ∈ ws, w.1.length ≤ 2 ^ 30) : R F.acts_Parse #[v] M fun r M' => Up M M' ∧ ParseR M M' r (parseA (ws.length + 1) ws []) := by
  refine R.cps fun Q hQ => ?_
  apply T_acts_Parse
  unfold S_acts_Parse
  exact parse_loop (M0 := M) hT h hl hw (fun r M' hu hr => hQ _ _ ⟨hu, hr⟩) (ws.length + 1) 0 [] _ M (by omega) (by omega) (Ch.refl _ _) NK.nil (by simp) (by simp) (by rw [List.drop_zero])
end Go.G
