/- GrphKinds: things that stand several times stand once; what is not there does not count. -/
import Derived.Test.YtnonfejhkbaikaaPL8m
import Derived.Test.YtnonfejhkbaikaaPE8t
import Derived.Test.YtnonfejhkbaikaaPE8j
import Derived.Test.YtnonfejhkbaikaaPW4d
import Derived.Test.YtnonfejhkbaikaaPGDk
namespace Go.G
open Go.Ab Go.Proofs Go.RowKit
set_option linter.unusedVariables false
set_option linter.unusedSimpArgs false
set_option maxRecDepth 100000

/-- Nothing that is there is ahead: all stand as they stand. -/
theorem ordF_free {α : Type} [DecidableEq α] (l : List α) (A : α → List α) (hn : l.Nodup) (hA : ∀ x ∈ l, ∀ b ∈ A x, b ∉ l) : ∀ (k i : Nat), k + i = l.length → ordF l A k (l.take i) = some l
  | 0, i, h => by rw [ordF, List.take_of_length_le (by omega)]
  | k + 1, i, h => by
    have hi : i < l.length := by omega
    have hf : ∀ j (hj : j < l.length), free l A (l.take i) l[j] = decide (i ≤ j) := by
      intro j hj
      unfold free
      have h2 : ((A l[j]).all fun b => decide (b ∉ l) || decide (b ∈ l.take i)) = true := by
        rw [List.all_eq_true]
        intro b hb
        rw [decide_eq_true (hA _ (List.getElem_mem hj) b hb)]; rfl
      rw [h2, Bool.and_true, decide_eq_decide]
      rw [List.mem_take_iff_getElem]
      constructor
      · intro hh
        exact Nat.le_of_not_lt fun hlt => hh ⟨j, by omega, rfl⟩
      · rintro hij ⟨q, hq, e⟩
        have := (List.getElem_inj hn).1 e
        omega
    have hx : nxt l A (l.take i) = some l[i] := by
      unfold nxt
      rw [List.find?_eq_some_iff_getElem]
      refine ⟨by rw [hf i hi, decide_eq_true (Nat.le_refl _)], i, hi, rfl, fun j hj => ?_⟩
      rw [hf j (by omega), decide_eq_false (by omega)]; rfl
    rw [ordF, hx]
    simp only
    have := ordF_free l A hn hA k (i + 1) (by omega)
    rwa [List.take_succ_eq_append_getElem hi] at this
def longS (ts : List (List UInt8)) : List UInt8 := 120 :: ts.flatten
def strS (ts : List (List UInt8)) (i : Nat) : List UInt8 := longS ts ++ Lib.decDigits i
theorem len_flat {ts : List (List UInt8)} {x : List UInt8} (h : x ∈ ts) : x.length ≤ ts.flatten.length := by
  obtain ⟨a, b, rfl⟩ := List.append_of_mem h
  simp; omega
theorem strS_out {ts : List (List UInt8)} {i : Nat} : strS ts i ∉ ts := fun h => by
  have := len_flat h
  unfold strS longS at this
  simp at this
  omega
section
variable {M0 : Store} {x0 : Value} {ts : List (List UInt8)} {n : Int} {Q : Value → Store → Prop}
theorem ki_in {x27 x28 x29 x33 : Value} {s : List UInt8} {once : List (List UInt8)} (hol : once.length ≤ 2 ^ 20) {M : Store} (h : LV sv Ty.string M x33 once) (hQ : P_fettlelaw8_GrphKinds_7 [] x0 (iv n) x33 (sv s) (tv (decide (s ∈ once))) x27 x28 x29 M Q) :
    ∀ (d k : Nat) (f : Bool), d + k = once.length → (f || decide (s ∈ once.drop k)) = decide (s ∈ once) → P_fettlelaw8_GrphKinds_5 [] x0 (iv n) x33 (sv s) (tv f) x27 x28 x29 x33 (nv once.length) (nv k) M Q := by
  intro d
  induction d with
  | zero =>
    intro k f hk hf
    apply T_fettlelaw8_GrphKinds_5
    unfold S_fettlelaw8_GrphKinds_5
    rw [List.drop_of_length_le (by omega)] at hf
    have hf : f = decide (s ∈ once) := by simpa using hf
    rw [lss_n, BR_dec, if_neg (by omega), hf]
    exact hQ
  | succ d ih =>
    intro k f hk hf
    have hkl : k < once.length := by omega
    apply T_fettlelaw8_GrphKinds_5
    unfold S_fettlelaw8_GrphKinds_5
    rw [lss_n, BR_dec, if_pos hkl]
    obtain ⟨p, e1, e2⟩ := h.at hkl .i64
    rw [e1, OP_some, e2, OP_some, BR_bool]
    rw [List.drop_eq_getElem_cons hkl] at hf
    split
    · rename_i hft
      subst hft
      rw [add1_n _ (by omega)]
      refine ih (k + 1) true (by omega) ?_
      refine Eq.trans ?_ hf
      rw [Bool.true_or, Bool.true_or]
    · rename_i hft
      have hft : f = false := by simpa using hft
      subst hft
      rw [sv_eq, add1_n _ (by omega)]
      refine ih (k + 1) _ (by omega) ?_
      refine Eq.trans ?_ hf
      rw [Bool.false_or]
      have : ∀ (b : Bool), (decide (once[k] = s) || b) = (decide (s = once[k]) || b) := fun b => by
        congr 1
        rw [decide_eq_decide]
        exact ⟨Eq.symm, Eq.symm⟩
      rw [this]
      generalize once[k] = o
      generalize once.drop (k + 1) = r
      by_cases e : s = o <;> simp [e]
theorem ki_once (hx : LV sv Ty.string M0 x0 ts) (htl : ts.length ≤ 20) (hQ : ∀ M x5, Up M0 M → NV sv Ty.string M0 M x5 (unl ts) → P_fettlelaw8_GrphKinds_4 [] x0 (iv n) x5 M Q) :
    ∀ (d i : Nat) (M : Store) (x5 : Value) (acc : List (List UInt8)), d + i = ts.length → Up M0 M → NV sv Ty.string M0 M x5 acc → acc.length ≤ i → unlA acc (ts.drop i) = unl ts → P_fettlelaw8_GrphKinds_2 [] x0 (iv n) x5 x0 (nv ts.length) (nv i) M Q := by
  intro d
  induction d with
  | zero =>
    intro i M x5 acc hi hu hN hl ha
    apply T_fettlelaw8_GrphKinds_2
    unfold S_fettlelaw8_GrphKinds_2
    rw [List.drop_of_length_le (by omega)] at ha
    simp only [unlA] at ha
    subst ha
    rw [lss_n, BR_dec, if_neg (by omega)]
    exact hQ M x5 hu hN
  | succ d ih =>
    intro i M x5 acc hi hu hN hl ha
    have hil : i < ts.length := by omega
    apply T_fettlelaw8_GrphKinds_2
    unfold S_fettlelaw8_GrphKinds_2
    rw [lss_n, BR_dec, if_pos hil]
    apply T_fettlelaw8_GrphKinds_3
    unfold S_fettlelaw8_GrphKinds_3
    obtain ⟨p, e1, e2⟩ := (hx.up hu).at hil .i64
    rw [e1, OP_some, e2, OP_some, hN.lv.len, OP_some]
    rw [List.drop_eq_getElem_cons hil, unlA] at ha
    generalize ts[i] = s at *
    refine ki_in (s := s) (once := acc) (by omega) hN.lv ?_ acc.length 0 false rfl (by rw [List.drop_zero, Bool.false_or])
    apply T_fettlelaw8_GrphKinds_7
    unfold S_fettlelaw8_GrphKinds_7
    rw [e_not, BR_bool]
    have next : ∀ (x5' : Value) (M' : Store) (acc' : List (List UInt8)), Up M0 M' → NV sv Ty.string M0 M' x5' acc' → acc'.length ≤ i + 1 → unlA acc' (ts.drop (i + 1)) = unl ts → P_fettlelaw8_GrphKinds_9 [] x0 (iv n) x5' x0 (nv ts.length) (nv i) M' Q := fun x5' M' acc' u' h1 h2 h3 => by
      apply T_fettlelaw8_GrphKinds_9
      unfold S_fettlelaw8_GrphKinds_9
      rw [add1_n _ (by omega)]
      exact ih (i + 1) M' x5' acc' (by omega) u' h1 h2 h3
    split
    · rename_i hin
      have hin : s ∉ acc := by simpa using hin
      rw [if_neg hin] at ha
      rw [bl_string, OP_some, LT_eq]
      refine NV.app1 hu (Nat.le_refl _) hu.n hN s rfl (by omega) fun v' M' u' hN' _ _ => ?_
      exact next v' M' _ u' hN' (by simp; omega) ha
    · rename_i hin
      have hin : s ∈ acc := by simpa using hin
      rw [if_pos hin] at ha
      exact next x5 M acc hu hN (by omega) ha
theorem ki_long (hx : LV sv Ty.string M0 x0 ts) (htz : ts.flatten.length ≤ 2 ^ 21) (htl : ts.length ≤ 20) {x5 : Value} (hQ : P_fettlelaw8_GrphKinds_8 [] x0 (iv n) x5 (sv (longS ts)) M0 Q) :
    ∀ (d i : Nat), d + i = ts.length → P_fettlelaw8_GrphKinds_6 [] x0 (iv n) x5 (sv (longS (ts.take i))) x0 (nv ts.length) (nv i) M0 Q := by
  intro d
  induction d with
  | zero =>
    intro i hi
    apply T_fettlelaw8_GrphKinds_6
    unfold S_fettlelaw8_GrphKinds_6
    rw [lss_n, BR_dec, if_neg (by omega), List.take_of_length_le (by omega)]
    exact hQ
  | succ d ih =>
    intro i hi
    have hil : i < ts.length := by omega
    apply T_fettlelaw8_GrphKinds_6
    unfold S_fettlelaw8_GrphKinds_6
    obtain ⟨p, e1, e2⟩ := hx.at hil .i64
    have hf : (ts.take (i + 1)).flatten.length ≤ ts.flatten.length := by
      have := congrArg List.length (congrArg List.flatten (List.take_append_drop (i + 1) ts))
      rw [List.flatten_append, List.length_append] at this; omega
    have e3 : longS (ts.take i) ++ ts[i] = longS (ts.take (i + 1)) := by
      unfold longS
      rw [List.take_succ_eq_append_getElem hil, List.flatten_append]; simp
    rw [lss_n, BR_dec, if_pos hil, e1, OP_some, e2, OP_some, sv_add _ _ (by
      have := congrArg List.length e3
      rw [List.length_append] at this
      rw [this]; unfold longS; rw [List.length_cons]; omega), e3, add1_n _ (by omega)]
    exact ih (i + 1) (by omega)
/-- The end. -/
theorem ki_14 (hQ : ∀ M, Q (tv true) M) {M : Store} {x5 x16 x18 : Value} {b20 r : Nat} {l : List (List UInt8)} (h5 : LV sv Ty.string M x5 l) (h16 : LV sv Ty.string M x16 l) (hl : l.length ≤ 2 ^ 20) (h18 : LV iv Ty.int M x18 []) (o20 : Ob M b20 [iv 0] Ty.int) (k : M.get r = some (.inr (.inr none))) :
    P_fettlelaw8_GrphKinds_14 [{ target := .collected r, args := #[] }] x5 x16 (tv true) x18 (tv true) (pp b20) M Q := by
  apply T_fettlelaw8_GrphKinds_14
  unfold S_fettlelaw8_GrphKinds_14
  rw [BR_bool, if_pos rfl]
  refine (SameTexts_ok h16 h5 (by omega)).mono fun v M1 ⟨e1, e2⟩ => ?_
  subst e1; subst e2
  rw [BR_bool, if_pos (by simp), BR_bool, if_pos rfl, h18.len, OP_some, eql_l (a := ([] : List Int).length) 0 0 rfl, BR_dec, if_pos (show ([] : List Int).length = 0 from rfl), o20.ld (v := iv 0) rfl, OP_some]
  show OP (binI .eql (.int .i64 0) (.int .i64 0)) _
  rw [e_eql, BR_dec, if_pos rfl]
  refine (awake8_ok M1).mono fun v M2 ⟨e1, e2⟩ => ?_
  subst e1; subst e2
  unfold atake
  simp only
  rw [k]
  simp only
  unfold atake
  rw [OP_some]
  exact ⟨rfl, hQ _⟩
theorem ki_12 (hQ : ∀ M, Q (tv true) M) {M : Store} {x5 x16 x18 : Value} {b2 b3 b20 : Nat} {w : Value} {l : List (List UInt8)} (h5 : LV sv Ty.string M x5 l) (h16 : LV sv Ty.string M x16 l) (hl : l.length ≤ 2 ^ 20) (h18 : LV iv Ty.int M x18 []) (o20 : Ob M b20 [iv 0] Ty.int)
    (o2 : Ob M b2 [w] Ty.sl_int) (hw : LV iv Ty.int M w []) (o3 : Ob M b3 [.func (.func F.fettlelaw8_GrphKinds_c3) #[] #[]] Ty.func_int_sl_int) :
    P_fettlelaw8_GrphKinds_12 [] x5 x16 (tv true) x18 (tv true) (pp b20) (.func (.func F.grph_Reach_int_c1) #[] #[pp b2, pp b3]) M Q := by
  apply T_fettlelaw8_GrphKinds_12
  unfold S_fettlelaw8_GrphKinds_12
  intro rc hrc
  show R F.grph_Reach_int_c1 #[.func (.yield (M.n + 1)) #[] #[], pp b2, pp b3] _ _
  have u1 := Up.push M (some (.inr (.inr none)))
  have u2 := Up.push (M.push (some (.inr (.inr none)))) (some (.inr (.inr (some rc))))
  have hu : Up M _ := u1.trans u2
  have hrg : Rc ((M.push (some (.inr (.inr none)))).push (some (.inr (.inr (some rc))))) (M.n + 1) rc := by
    have := Store.get_push_eq (M.push (some (.inr (.inr none)))) (some (.inr (.inr (some rc))))
    exact this
  have hk2 : ((M.push (some (.inr (.inr none)))).push (some (.inr (.inr (some rc))))).get M.n = some (.inr (.inr none)) := u2.get (Store.get_push_eq M (some (.inr (.inr none))))
  generalize hN : (M.push (some (.inr (.inr none)))).push (some (.inr (.inr (some rc)))) = N at *
  have hNn : N.n = M.n + 2 := by rw [← hN]; simp
  refine Reach_c1_ok (base := M.n) (W := Up M) (I := fun _ S M' => S = [M.n, M.n + 1] ∧ Rc M' (M.n + 1) rc ∧ M'.get M.n = some (.inr (.inr none))) (Z := fun _ _ => False) (y := .func (.yield (M.n + 1)) #[] #[]) (g := .func (.func F.fettlelaw8_GrphKinds_c3) #[] #[]) (w := w) (fr := []) (A := fun _ => []) (L := []) (n := 1) (S := [M.n, M.n + 1])
    ⟨fun M' h => o2.up h, fun M' h => hw.up h, fun M' h => o3.up h, fun M' h x hx => (by cases hx), fun x hx => (by cases hx), fun M1 M2 U h cc hU => h.ch cc hU, fun i S M' h b hb => ?_, fun i S M1 M2 U h cc hU => ?_, fun i S M' hi => absurd hi (by simp), by simp⟩
    (by simp) rfl hu ⟨rfl, hrg, hk2⟩ (by omega) (fun S M' hI hW => ?_) (fun i M' hz _ => hz.elim)
  · obtain ⟨rfl, h1, h2⟩ := h
    have := M'.lt_of_get h1
    simp at hb
    rcases hb with rfl | rfl <;> omega
  · obtain ⟨rfl, h1, h2⟩ := h
    exact ⟨rfl, cc.at h1 (fun hm => hU _ hm (by simp)), cc.at h2 (fun hm => hU _ hm (by simp))⟩
  · obtain ⟨_, hr', hk⟩ := hI
    obtain ⟨f, _, he⟩ := hrc
    rw [hr'.of, OP_some]
    have hpe : Nat.beq 0 rc.pe = true := by rw [he]; rfl
    refine ⟨by rw [he]; exact fun h => (by cases h), ?_⟩
    rw [hpe, cond_true]
    have cc : Ch [M.n + 1] M' (putRec M' (M.n + 1) { rc with st := .exhausted }) := hr'.ch _
    have uW := hW.ch cc (fun q hq => by simp at hq; omega)
    exact ki_14 (M := putRec M' (M.n + 1) { rc with st := .exhausted }) hQ (h5.up uW) (h16.up uW) hl (h18.up uW) (o20.up uW) (cc.at hk (by simp))
theorem e_box1 (s : List UInt8) : (sv s).cells = #[sv s] := cells_sv s
/-- The strange ones, one by one. -/
theorem ki_10 (hx : LV sv Ty.string M0 x0 ts) (htz : ts.flatten.length ≤ 2 ^ 21) {x5 : Value} {b14 m : Nat} (hm : m ≤ 3) (h14 : M0.n ≤ b14)
    (hQ : ∀ M x, Up M0 M → Ob M b14 [x] Ty.sl_string → LV sv Ty.string M x ((List.range m).map (strS ts)) → P_fettlelaw8_GrphKinds_11 [] x0 x5 (pp b14) M Q) :
    ∀ (d i : Nat) (M : Store) (x : Value) (l : List (List UInt8)), d + i = m → Up M0 M → Ob M b14 [x] Ty.sl_string → NV sv Ty.string M0 M x l → l.length = m → (∀ j, j < i → l[j]? = some (strS ts j)) → P_fettlelaw8_GrphKinds_10 [] x0 x5 (sv (longS ts)) (pp b14) (nv m) (nv i) M Q := by
  intro d
  induction d with
  | zero =>
    intro i M x l hi hu ho hN hl hd
    apply T_fettlelaw8_GrphKinds_10
    unfold S_fettlelaw8_GrphKinds_10
    rw [lss_n, BR_dec, if_neg (by omega)]
    have : l = (List.range m).map (strS ts) := by
      apply List.ext_getElem?
      intro j
      by_cases hj : j < m
      · rw [hd j (by omega), List.getElem?_map, List.getElem?_range hj]; rfl
      · rw [List.getElem?_eq_none (by omega), List.getElem?_eq_none (by simp; omega)]
    subst this
    exact hQ M x hu ho hN.lv
  | succ d ih =>
    intro i M x l hi hu ho hN hl hd
    apply T_fettlelaw8_GrphKinds_10
    unfold S_fettlelaw8_GrphKinds_10
    rw [lss_n, BR_dec, if_pos (by omega), ho.ld (v := x) rfl, OP_some]
    have hdl : (Lib.decDigits i).length ≤ 1 := by rw [ddz_small (by omega)]; simp
    refine (Dec_ok (n := i) (by omega) (by omega)).mono fun v M1 ⟨u1, e⟩ => ⟨u1.tdj _ _, ?_⟩
    subst e
    have hll : (longS ts).length ≤ 2 ^ 21 + 1 := by unfold longS; rw [List.length_cons]; omega
    rw [sv_add _ _ (by omega)]
    have hN1 := Nw.up hN u1
    have hbl : ∀ q, bx x = some q → q < M.n := fun q hq => by
      have hne : l ≠ [] := by intro e; subst e; simp at hl; omega
      obtain ⟨h1, a, c, e, h3, h4⟩ := hN.lv
      obtain ⟨b, o, cells, e', own, rfl, h6, _⟩ := h4 (List.length_pos_iff.2 hne)
      rw [e] at hq
      simp only [bx, Option.some.injEq] at hq
      subst hq; exact M.lt_of_get h6
    obtain ⟨p, M2, b, e1, e2, e3, hN2, hb0, hb1, hb2, c⟩ := Nw.put1 hN1 (show i < l.length by omega) .i64 (w := sv (strS ts i)) (cells_sv _) (oc_sv _)
    rw [e1, OP_some]
    show OP (st 1 p (sv (strS ts i)) M1) _
    rw [e3, OP_some]
    have hbM := hbl b hb0
    have hgs : ∃ y, M1.get b = some y := by
      obtain ⟨_, ⟨h2, _⟩ | ⟨b', cells, cp, rfl, _, h6, _⟩⟩ := hN1
      · omega
      · simp only [bx, Option.some.injEq] at hb0; subst hb0; exact ⟨_, h6⟩
    refine ⟨⟨c.n, fun z hz => ?_⟩, ?_⟩
    · rcases c.tdiff z hz with h | h
      · exact .inl h
      · have : z = b := by simpa using h
        subst this
        obtain ⟨y, hy⟩ := hgs
        refine .inr ⟨by rw [hy]; rfl, ?_⟩
        unfold accB
        rw [Bool.or_eq_true]
        exact .inl (by simpa using hbM)
    · rw [add1_n _ (by omega)]
      have hne14 : b14 ≠ b := by
        rintro rfl
        obtain ⟨_, ⟨h2, _⟩ | ⟨b', cells, cp, rfl, _, h6, _⟩⟩ := hN1
        · omega
        · simp only [bx, Option.some.injEq] at hb0; subst hb0
          have h7 : M1.get b' = _ := ho.up u1
          rw [h6] at h7; injection h7 with h7; injection h7 with h7
          simp only [Prod.mk.injEq] at h7
          exact absurd h7.2.1 (by decide)
      have hN3 : NV sv Ty.string M0 M2 x (l.set i (strS ts i)) := by
        show Nw 1 _ _ _ _ _ _
        rw [List.length_set, List.map_set]; exact hN2
      refine ih (i + 1) M2 x _ (by omega) ((hu.trans u1).ch c (by simpa using hb1)) ((ho.up u1).fr c (by simpa using hne14)) hN3 (by simpa using hl) fun j hj => ?_
      rw [List.getElem?_set]
      by_cases e : i = j
      · subst e; rw [if_pos rfl, if_pos (by omega)]
      · rw [if_neg e]; exact hd j (by omega)
theorem Kinds_c1_ok {M : Store} {b : Nat} {x y : Value} {l : List (List UInt8)} (o : Ob M b [y] Ty.sl_string) (h : LV sv Ty.string M y l) : R F.fettlelaw8_GrphKinds_c1 #[x, pp b] M fun v M' => M' = M ∧ LV sv Ty.string M' v l := by
  apply T_fettlelaw8_GrphKinds_c1
  unfold S_fettlelaw8_GrphKinds_c1
  rw [o.ld (v := y) rfl, OP_some]
  exact ⟨nts_of h, rfl, h⟩
theorem ki_1 (hQ : ∀ M, Q (tv true) M) (hx : LV sv Ty.string M0 x0 ts) (htz : ts.flatten.length ≤ 2 ^ 21) (htl : ts.length ≤ 20) : P_fettlelaw8_GrphKinds_1 [] x0 (iv n) M0 Q := by
  apply T_fettlelaw8_GrphKinds_1
  unfold S_fettlelaw8_GrphKinds_1
  rw [hx.len, OP_some]
  refine ki_once hx htl (fun M x5 u5 h5 => ?_) ts.length 0 M0 _ [] rfl (Ch.refl _ _) NV.nil (Nat.zero_le _) (by rw [List.drop_zero]; rfl)
  have hx5 := hx.up u5
  apply T_fettlelaw8_GrphKinds_4
  unfold S_fettlelaw8_GrphKinds_4
  rw [hx5.len, OP_some]
  refine ki_long hx5 htz htl ?_ ts.length 0 rfl
  apply T_fettlelaw8_GrphKinds_8
  unfold S_fettlelaw8_GrphKinds_8
  show OP (binI .and (.int .i64 n) (.int .i64 ((3 : Nat) : Int))) _
  rw [e_andN n 3 (by decide), OP_some]
  have hq := andN_le n 3 (by decide)
  generalize andN n 3 = m at *
  refine mkS_ok (En := sv) (x0 := []) (z := .string ⟨#[]⟩) rfl rfl (by omega) (by decide) fun v M1 u1 hN1 hbx => ?_
  refine s_new fun M2 u2 o2 n2 => ?_
  obtain ⟨va, vc, rfl⟩ := hN1.sl.slice
  refine s_st1 (i := 0) (w := .slice va (List.replicate m ([] : List UInt8)).length vc) o2 (by simp) (cells_sl _ _ _) (oc_sl _ _ _) fun M3 c3 o3 _ => ?_
  rw [o3.ld (v := .slice va (List.replicate m ([] : List UInt8)).length vc) rfl, OP_some]
  have hN3 : NV sv Ty.string M M3 (.slice va (List.replicate m ([] : List UInt8)).length vc) (List.replicate m []) := Nw.keep (Nw.up hN1 u2) (by decide) (c3.keepT o2)
  rw [hN3.lv.len, OP_some, List.length_replicate]
  have u13 : Up M M3 := (u1.trans u2).ch c3 (by simp; exact u1.n)
  refine ki_10 (M0 := M) hx5 htz (b14 := M1.n) hq u1.n (fun M4 x u4 o4 h4 => ?_) m 0 M3 _ (List.replicate m []) (by omega) u13 o3 hN3 (by simp) (fun j hj => by omega)
  apply T_fettlelaw8_GrphKinds_11
  unfold S_fettlelaw8_GrphKinds_11
  have hmk : mkF (.func F.fettlelaw8_GrphKinds_c1) [] [pp M1.n] = some (.func (.func F.fettlelaw8_GrphKinds_c1) #[] #[pp M1.n]) := rfl
  rw [hmk, OP_some]
  have hord := ordF_free (unl ts) (fun _ => (List.range m).map (strS ts)) (unl_nodup ts) (fun x _ b hb hm => by
    obtain ⟨j, _, rfl⟩ := List.mem_map.1 hb
    exact strS_out ((unl_mem _ _).1 hm)) (unl ts).length 0 rfl
  rw [List.take_zero] at hord
  refine (Order_string_ok (hx5.up u4) (by omega) (fun _ => (List.range m).map (strS ts)) (fun M' u' s _ => ?_) (fun _ _ => by simp; omega)).mono fun r M5 ⟨u5', v, er, hv⟩ => ?_
  · show R F.fettlelaw8_GrphKinds_c1 #[sv s, pp M1.n] M' _
    refine (Kinds_c1_ok (o4.up u') (h4.up u')).mono fun w M'' ⟨e, h⟩ => ?_
    subst e
    exact ⟨Ch.refl _ _, h⟩
  rw [hord] at er hv
  subst er
  rw [tp2_0, OP_some, tp2_1, OP_some]
  have hv : NV sv Ty.string M4 M5 v (unl ts) := hv
  refine (Order_int_ok (x0 := .slice none 0 0) (xs := []) (g := .func (.func F.fettlelaw8_GrphKinds_c2) #[] #[]) (Sl.nil _ _ _) (by simp) (fun _ => []) (fun M' _ x hx => by cases hx) (fun x hx => by cases hx)).mono fun r M6 ⟨u6, v6, er, hv6⟩ => ?_
  subst er
  have hv6 : NV iv Ty.int M5 M6 v6 [] := hv6
  rw [tp2_0, OP_some, tp2_1, OP_some]
  refine s_new fun M7 u7 o7 n7 => ?_
  refine s_st1 (i := 0) (w := iv 0) o7 (by simp) (cells_iv _) (oc_iv _) fun M8 c8 o8 _ => ?_
  have u68 : Up M6 M8 := u7.ch c8 (by simp)
  refine (Reach_int_ok (x0 := .slice none 0 0) (fr := []) (Sl.nil _ _ _) (by simp) ⟨F.fettlelaw8_GrphKinds_c3, #[], rfl⟩).mono fun w M9 ⟨u9, b2, b3, w2, e, hb2, hb3, p2, hw2, p3⟩ => ?_
  subst e
  have hfn : ∀ K : Value → Prop, OP (abin Try.prog true .eql Ty.iter_Seq_int (.func (.func F.grph_Reach_int_c1) #[] #[pp b2, pp b3]) .nilFunc) K = K (tv false) := fun K => by
    have : abin Try.prog true .eql Ty.iter_Seq_int (.func (.func F.grph_Reach_int_c1) #[] #[pp b2, pp b3]) .nilFunc = some (.bool false) := by kernel_rfl
    rw [this, OP_some]
  rw [hfn, BR_bool, if_neg (by decide)]
  have uz := u68.trans u9
  have hul := unl_length ts
  exact ki_12 hQ ((h5.lv.up u4).up ((u5'.trans u6).trans uz)) (hv.lv.up (u6.trans uz)) (by omega) (hv6.lv.up uz) (o8.up u9) p2 hw2.lv p3
end
theorem GrphKinds_ok {M : Store} {x0 : Value} {ts : List (List UInt8)} (hx : LV sv Ty.string M x0 ts) (hz : ts.flatten.length ≤ 2 ^ 21) (n : Int) : R F.fettlelaw8_GrphKinds #[x0, iv n] M fun v _ => v = tv true := by
  refine R.cps fun Q hQ => ?_
  have hQ : ∀ M, Q (tv true) M := fun M => hQ _ _ rfl
  apply T_fettlelaw8_GrphKinds
  unfold S_fettlelaw8_GrphKinds
  rw [hx.len, OP_some]
  show OP (binI .gtr (nv ts.length) (.int .i64 20)) _
  rw [gtr_l 20 20 rfl, BR_dec]
  split
  · rename_i h20
    obtain ⟨w, e1, e2⟩ := hx.cut (lo := none) (hi := some (.int .i64 ((20 : Nat) : Int))) (a := 0) (r := 20) (ab_some (by omega) .i64) ab_none (by omega) (Nat.zero_le _)
    have e1 : slV 1 Ty.string x0 none (some (.int .i64 20)) M = some w := e1
    rw [e1, OP_some]
    have hf : (ts.take 20).flatten.length ≤ ts.flatten.length := by
      have := congrArg List.length (congrArg List.flatten (List.take_append_drop 20 ts))
      rw [List.flatten_append, List.length_append] at this; omega
    rw [List.drop_zero] at e2
    exact ki_1 hQ e2 (by omega) (by rw [List.length_take]; omega)
  · exact ki_1 hQ hx hz (by omega)
end Go.G
