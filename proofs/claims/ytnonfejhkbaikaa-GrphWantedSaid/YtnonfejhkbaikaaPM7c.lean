/- Manifests of numbers: the text that the statements make. -/
import Derived.Test.YtnonfejhkbaikaaPUG
import Derived.Test.YtnonfejhkbaikaaPUM
import Derived.Test.YtnonfejhkbaikaaPN1
import Derived.Test.YtnonfejhkbaikaaPAbStep
namespace Go.G
open Go.Ab Go.Proofs Go.RowKit
set_option linter.unusedVariables false
set_option linter.unusedSimpArgs false
set_option maxRecDepth 100000
theorem shrand (k : Int) (c m : Nat) (c' m' : Int) (hc' : (c : Int) = c') (hm' : (m : Int) = m') (hc : c ≤ 64) (hm : m < 2 ^ 62) (K : Value → Prop) :
    (OP (binI .shr (iv k) (.int .u64 c')) fun t => OP (binI .and t (.int .i64 m')) K) = K (iv (andN (shrN k c) m : Int)) := by
  subst hc' hm'
  rw [e_shrN k c hc]
  rw [e_andN _ m hm, OP_some]
theorem shrvar (k : Int) (a b m q : Nat) (a' b' m' : Int) (ha' : (a : Int) = a') (hb' : (b : Int) = b') (hm' : (m : Int) = m') (hq : q ≤ 7) (ha : a ≤ 24) (hb : b ≤ 4) (hm : m < 2 ^ 62) (K : Value → Prop) :
    (OP (binI .mul (.int .i64 b') (iv (q : Int))) fun t72 => OP (binI .add (.int .i64 a') t72) fun t73 => OP (cvI .u64 t73) fun t74 => OP (binI .shr (iv k) t74) fun t75 => OP (binI .and t75 (.int .i64 m')) K) = K (iv (andN (shrN k (a + b * q)) m : Int)) := by
  subst ha' hb' hm'
  have hbq : b * q ≤ 28 := Nat.mul_le_mul hb hq
  rw [show binI .mul (.int .i64 (b : Int)) (iv (q : Int)) = some (iv ((b * q : Nat) : Int)) from by
    have h : binI .mul (.int .i64 (b : Int)) (.int .i64 (q : Int)) = some (.int .i64 (IntKind.wrap .i64 ((b : Int) * (q : Int)))) := rfl
    show binI .mul (.int .i64 (b : Int)) (.int .i64 (q : Int)) = _
    have e : (b : Int) * (q : Int) = ((b * q : Nat) : Int) := by simp
    rw [h, e, w64n _ (by omega)], OP_some, add_n _ _ (by omega)]
  have ec : ∀ K : Value → Prop, OP (cvI .u64 (iv ((a + b * q : Nat) : Int))) K = K (.int .u64 ((a + b * q : Nat) : Int)) := fun K => by
    show OP (cvI .u64 (.int .i64 _)) K = _
    rw [e_cvI]
    have : IntKind.wrap .u64 ((a + b * q : Nat) : Int) = ((a + b * q : Nat) : Int) := by simp [IntKind.wrap, IntKind.bits, IntKind.signed]; omega
    rw [this]
  rw [ec]
  exact shrand k (a + b * q) m _ _ rfl rfl (by omega) hm K
theorem rem_n (a b : Nat) (hb : 0 < b) (K : Value → Prop) : OP (binI .rem (iv (a : Int)) (iv (b : Int))) K = K (iv ((a % b : Nat) : Int)) := by
  have : binI .rem (iv (a : Int)) (iv (b : Int)) = some (iv ((a % b : Nat) : Int)) := e_rem a b hb
  rw [this, OP_some]
theorem bl_s1 (x : ByteArray) (K : List Value → Prop) : OP (bldL (.string ⟨#[]⟩) 1 1 [(0, .string x)]) K = K [.string x] := by kernel_rfl
theorem getD_len {l : List (List UInt8)} {m : Nat} (h : ∀ x ∈ l, x.length ≤ m) (i : Nat) : (l.getD i []).length ≤ m := by
  rw [List.getD_eq_getElem?_getD]
  cases e : l[i]? with
  | none => simp
  | some x => exact h x (List.mem_of_getElem? e)
theorem nmG_len (i : Nat) : (nmG i).length ≤ 1 := getD_len (by decide) i
theorem nmD_len (i : Nat) : (nmS.getD i []).length ≤ 1 := nmG_len i
theorem srG_len (i : Nat) : (srG i).length ≤ 1 := getD_len (by decide) i
abbrev acG (i : Nat) : List UInt8 := acS.getD i []
theorem acG_len (i : Nat) : (acG i).length ≤ 40 := getD_len (by decide) i
theorem inM_len (n : Nat) (k : Int) (q : Nat) : (inM n k q).length ≤ 1 := by
  unfold inM; split
  · exact nmG_len _
  · exact srG_len _
abbrev spN (l : List (List UInt8)) : List UInt8 := spjT (l.map wT)
theorem spN_snoc (l : List (List UInt8)) (x : List UInt8) : spN (l ++ [x]) = spN l ++ [32] ++ x := by simp [spN, spjT, spT]
theorem spN_len : ∀ l : List (List UInt8), (∀ x ∈ l, x.length ≤ 1) → (spN l).length ≤ l.length * 2
  | [], _ => by simp [spN, spjT]
  | x :: l, h => by
    have h1 := h x (by simp)
    have h2 := spN_len l fun y hy => h y (by simp [hy])
    have e : spN (x :: l) = 32 :: (x ++ spN l) := by simp [spN, spjT, spT]
    rw [e, List.length_cons, List.length_append, List.length_cons]; omega
def actY : Bool → List Nat → List UInt8
  | _, [] => []
  | b, a :: r => (if b = true then [] else [32, 44]) ++ (32 :: acG a ++ actY false r)
theorem actY_snoc : ∀ (l : List Nat) (b : Bool) (a : Nat), actY b (l ++ [a]) = actY b l ++ ((if b = true ∧ l = [] then [] else [32, 44]) ++ (32 :: acG a))
  | [], b, a => by cases b <;> simp [actY]
  | x :: l, b, a => by
    rw [List.cons_append, actY, actY, actY_snoc l false a]
    cases b <;> simp
theorem aWt_join {a : Nat} (h : a < 8) : spjT (aWt a) = 32 :: acG a := by
  rw [spjT_join (actWt_good _ (aWt_mem h)).1]
  congr 1
  have hl : a < actWt.length := h
  show joinT (actWt.getD a []) = acS.getD a []
  rw [acS_join, List.getD_eq_getElem?_getD, List.getD_eq_getElem?_getD, List.getElem?_map, List.getElem?_eq_getElem hl]; rfl
theorem actY_words : ∀ l : List Nat, (∀ a ∈ l, a < 8) → spjT (actsT l) = actY true l
  | [], _ => rfl
  | [a], h => by
    simp only [actsT, actY, if_true, List.append_nil, List.nil_append]
    exact aWt_join (h a (by simp))
  | a :: b :: r, h => by
    rw [actsT, if_neg (by simp), spjT_app, spjT_cons, aWt_join (h a (by simp)), actY_words (b :: r) fun x hx => h x (by simp [hx])]
    simp [actY, spT]
def ordX (n : Nat) (k : Int) : List UInt8 := if andN (shrN k 17) 3 = 0 ∧ 0 < n then [32, 124, 32] ++ nmG (andN (shrN k 19) 7 % n) else []
theorem textT_app (a b : List (List Tw)) : textT (a ++ b) = textT a ++ textT b := by simp [textT]
theorem textT_ph (n : Nat) (k : Int) : textT ((phM n k).map rowT) = if andN (shrN k 22) 7 = 0 then [112, 104, 111, 110, 121, 32, 112] ++ nmG (n + (outsM n k).length - 1) ++ [32, 58] ++ spN (insM n k) ++ [10] else [] := by
  unfold phM
  split
  · simp only [List.map_cons, List.map_nil, textT, List.flatMap_cons, List.flatMap_nil, List.append_nil]
    unfold rowT
    rw [if_pos rfl, joinT_cons]
    simp [spjT, spT]
  · rfl
theorem textT_ru (n : Nat) (k : Int) : textT [rowT (ruM n k)] = ruleW ++ spN (outsM n k) ++ [32, 58] ++ spN (insM n k) ++ ordX n k ++ [32, 61] ++ actY true ((List.range (outsM n k).length).map (acM k)) ++ [10] := by
  have ha := actY_words ((List.range (outsM n k).length).map (acM k)) fun a ha => by
    obtain ⟨q, _, rfl⟩ := List.mem_map.1 ha
    exact acM_lt k q
  simp only [textT, List.flatMap_cons, List.flatMap_nil, List.append_nil]
  unfold rowT
  rw [if_neg (by simp [ruM]), joinT_cons]
  have ho : spjT (if (ruM n k).order = [] then [] else wT [124] :: (ruM n k).order.map wT) = ordX n k := by
    show spjT (if ordM n k = [] then [] else wT [124] :: (ordM n k).map wT) = ordX n k
    unfold ordM ordX
    split <;> simp [spjT, spT]
  rw [spjT_app, spjT_cons, spjT_app, spjT_app, ho, spjT_cons]
  show _ ++ (_ ++ _ :: (_ ++ (_ ++ (_ ++ _ :: (_ ++ spjT (actsT ((List.range (outsM n k).length).map (acM k)))))))) ++ _ = _
  rw [ha]
  simp [spT, ruM]
section
variable {M0 : Store} {x0 x3 x4 x5 : Value} {l : List Int} {T : List UInt8} {Q : Value → Store → Prop}
structure MnI (M0 M : Store) (x0 x3 x4 x5 : Value) (l : List Int) : Prop where
  hl : LV iv Ty.int M x0 l
  hn : LV sv Ty.string M x3 nmS
  hs : LV sv Ty.string M x4 srS
  ha : LV sv Ty.string M x5 acS
  u : Up M0 M
theorem MnI.up {M M' : Store} (h : MnI M0 M x0 x3 x4 x5 l) (k : Up M M') : MnI M0 M' x0 x3 x4 x5 l := ⟨h.hl.up k, h.hn.up k, h.hs.up k, h.ha.up k, h.u.trans k⟩
theorem nm_ld {M : Store} {x : Value} {xs : List (List UInt8)} (h : LV sv Ty.string M x xs) {i : Nat} (hi : i < xs.length) (K : Value → Prop) : (OP (ixA 1 x (iv (i : Int))) fun p => OP (ld 1 false p M) K) = K (sv (xs.getD i [])) := by
  obtain ⟨p, e1, e2⟩ := h.at hi .i64
  rw [e1, OP_some, e2, OP_some, List.getD_eq_getElem?_getD, List.getElem?_eq_getElem hi]; rfl
theorem mn_12 {i n' : Nat} {k : Int} {s : List UInt8} {M : Store} (hI : MnI M0 M x0 x3 x4 x5 l) (hs : s.length ≤ 2 ^ 20) {m : Nat} (hm : m ≤ 2)
    (hk : ∀ M', MnI M0 M' x0 x3 x4 x5 l → ∀ s' : List UInt8, s' = s ++ actY true ((List.range m).map (acM k)) ++ [10] → s'.length ≤ s.length + 200 → P_lM_16 x0 x3 x4 x5 (sv s') (iv (n' : Int)) (iv (i : Int)) M' Q) :
    ∀ (d q : Nat) (s' : List UInt8), d + q = m → s' = s ++ actY true ((List.range q).map (acM k)) → s'.length ≤ s.length + q * 50 → P_lM_12 x0 x3 x4 x5 (sv s') (iv (n' : Int)) (iv (i : Int)) (iv k) (iv (m : Int)) (iv (q : Int)) M Q := by
  intro d
  induction d with
  | zero =>
    intro q s' hq he hl
    apply T_lM_12
    unfold S_lM_12
    rw [lss_n, BR_dec, if_neg (by omega)]
    apply T_lM_14
    unfold S_lM_14
    show OP (binS .add (sv s') (sv [10])) _
    rw [sv_add _ _ (by simp only [List.length_append, List.length_cons, List.length_nil]; omega)]
    have : q = m := by omega
    subst this
    exact hk M hI _ (by rw [he]) (by simp only [List.length_append, List.length_cons, List.length_nil]; omega)
  | succ d ih =>
    intro q s' hq he hl
    apply T_lM_12
    unfold S_lM_12
    rw [lss_n, BR_dec, if_pos (by omega)]
    have s15 : ∀ s2 : List UInt8, s2 = s' ++ (if q = 0 then [] else [32, 44]) → s2.length ≤ s'.length + 2 → P_lM_15 x0 x3 x4 x5 (sv s2) (iv (n' : Int)) (iv (i : Int)) (iv k) (iv (q : Int)) (iv (m : Int)) (iv (q : Int)) M Q := by
      intro s2 hs2 hl2
      apply T_lM_15
      unfold S_lM_15
      rw [shrvar k 24 2 7 q 24 2 7 rfl rfl rfl (by omega) (by decide) (by decide) (by decide), hI.ha.len, OP_some]
      show OP (binI .rem (iv _) (iv ((8 : Nat) : Int))) _
      rw [rem_n _ 8 (by decide)]
      have hlt := Nat.mod_lt (andN (shrN k (24 + 2 * q)) 7) (show 0 < 8 by decide)
      rw [nm_ld hI.ha (show _ < 8 from hlt)]
      rw [shrand k 28 3 28 3 rfl rfl (by decide) (by decide), gtr_l 0 0 rfl, BR_dec]
      have last : ∀ a : Nat, a = acM k q → OP (binS .add (sv s2) (.string ⟨#[32]⟩)) (fun t => OP (binS .add t (sv (acG a))) fun t196 => P_lM_17 x0 x3 x4 x5 t196 (iv (n' : Int)) (iv (i : Int)) (iv k) (iv (m : Int)) (iv (q : Int)) M Q) := by
        intro a ha
        have hal := acG_len a
        show OP (binS .add (sv s2) (sv [32])) _
        rw [sv_add _ _ (by simp only [List.length_append, List.length_cons, List.length_nil]; omega), sv_add _ _ (by simp only [List.length_append, List.length_cons, List.length_nil]; omega)]
        apply T_lM_17
        unfold S_lM_17
        rw [add1_n _ (by omega)]
        refine ih (q + 1) _ (by omega) ?_ (by simp only [List.length_append, List.length_cons, List.length_nil]; omega)
        rw [hs2, he, List.range_succ, List.map_append, List.map_singleton, actY_snoc, ha]
        by_cases h0 : q = 0
        · subst h0; simp
        · simp [h0]
      split
      · rename_i h0
        show OP (binS .eql (sv (acG _)) (sv (acG 7))) _
        rw [sv_eq, BR_dec]
        split
        · rename_i h7
          refine last 0 ?_
          unfold acM
          have : ∀ j, j < 8 → acG j = acG 7 → j = 7 := by decide +kernel
          rw [if_pos ⟨h0, this _ hlt h7⟩]
        · rename_i h7
          refine last _ ?_
          unfold acM
          rw [if_neg]
          rintro ⟨_, h⟩
          exact h7 (by rw [h])
      · rename_i h0
        refine last _ ?_
        unfold acM
        rw [if_neg]
        rintro ⟨h, _⟩
        exact h0 h
    apply T_lM_13
    unfold S_lM_13
    rw [gtr_l 0 0 rfl, BR_dec]
    split
    · rename_i h0
      show OP (binS .add (sv s') (sv [32, 44])) _
      rw [sv_add _ _ (by simp only [List.length_append, List.length_cons, List.length_nil]; omega)]
      exact s15 _ (by rw [if_neg (by omega)]) (by simp)
    · rename_i h0
      exact s15 s' (by rw [if_pos (by omega), List.append_nil]) (by omega)
theorem mn_4 {n i : Nat} {k : Int} {s : List UInt8} {M : Store} (hI : MnI M0 M x0 x3 x4 x5 l) (hs : s.length ≤ 2 ^ 19) (hn : n < 7) {x10 : Value} (h10 : LV sv Ty.string M x10 (outsM n k)) (hol : (outsM n k).length ≤ 2)
    (hoh : n + (outsM n k).length ≤ 7)
    (hk : ∀ M', MnI M0 M' x0 x3 x4 x5 l → ∀ s' : List UInt8, s' = s ++ textT ((phM n k ++ [ruM n k]).map rowT) → s'.length ≤ s.length + 600 → P_lM_16 x0 x3 x4 x5 (sv s') (iv ((n + (outsM n k).length : Nat) : Int)) (iv (i : Int)) M' Q) :
    P_lM_4 x0 x3 x4 x5 (sv s) (iv ((n + (outsM n k).length : Nat) : Int)) (iv (i : Int)) (iv k) x10 M Q := by
  have hol1 : 1 ≤ (outsM n k).length := by unfold outsM; simp
  have hil : (insM n k).length ≤ 3 := by unfold insM; rw [List.length_map, List.length_range]; exact andN_le _ 3 (by decide)
  have hi1 : ∀ x ∈ insM n k, x.length ≤ 1 := fun x hx => by
    obtain ⟨q, _, rfl⟩ := List.mem_map.1 hx
    exact inM_len n k q
  have ho1 : ∀ x ∈ outsM n k, x.length ≤ 1 := fun x hx => by
    unfold outsM at hx
    rcases List.mem_cons.1 hx with rfl | hx
    · exact nmG_len _
    · split at hx
      · rw [List.mem_singleton.1 hx]; exact nmG_len _
      · cases hx
  have hinl := spN_len _ hi1
  have hordl : (ordX n k).length ≤ 4 := by
    unfold ordX
    split
    · have := nmG_len (andN (shrN k 19) 7 % n); simp only [List.length_append, List.length_cons, List.length_nil]; omega
    · simp
  have hsub : n + (outsM n k).length - (outsM n k).length = n := by omega
  -- the rule
  have s9 : ∀ s1 : List UInt8, s1 = s ++ textT ((phM n k).map rowT) → s1.length ≤ s.length + 100 → P_lM_9 x0 x3 x4 x5 (sv s1) (iv ((n + (outsM n k).length : Nat) : Int)) (iv (i : Int)) (iv k) x10 (sv (spN (insM n k))) (sv (ordX n k)) M Q := by
    intro s1 he hl1
    apply T_lM_9
    unfold S_lM_9
    show OP (binS .add (sv s1) (sv ruleW)) _
    rw [sv_add _ _ (by simp only [List.length_append, List.length_cons, List.length_nil]; omega), h10.len, OP_some]
    have s10 : ∀ (d q : Nat), d + q = (outsM n k).length → P_lM_10 x0 x3 x4 x5 (sv (s1 ++ ruleW ++ spN ((outsM n k).take q))) (iv ((n + (outsM n k).length : Nat) : Int)) (iv (i : Int)) (iv k) x10 (sv (spN (insM n k))) (sv (ordX n k)) x10 (iv ((outsM n k).length : Int)) (iv (q : Int)) M Q := by
      intro d
      induction d with
      | zero =>
        intro q hq
        apply T_lM_10
        unfold S_lM_10
        rw [lss_n, BR_dec, if_neg (by omega), List.take_of_length_le (by omega)]
        have hsl := spN_len _ ho1
        apply T_lM_11
        unfold S_lM_11
        show OP (binS .add (sv _) (sv [32, 58])) _
        rw [sv_add _ _ (by simp only [List.length_append, List.length_cons, List.length_nil]; omega), sv_add _ _ (by simp only [List.length_append, List.length_cons, List.length_nil]; omega), sv_add _ _ (by simp only [List.length_append, List.length_cons, List.length_nil]; omega)]
        show OP (binS .add (sv _) (sv [32, 61])) _
        rw [sv_add _ _ (by simp only [List.length_append, List.length_cons, List.length_nil]; omega), h10.len, OP_some]
        refine mn_12 (s := s1 ++ ruleW ++ spN (outsM n k) ++ [32, 58] ++ spN (insM n k) ++ ordX n k ++ [32, 61]) hI (by simp only [List.length_append, List.length_cons, List.length_nil]; omega) hol (fun M' hI' s' hs' hl' => hk M' hI' s' ?_ ?_) (outsM n k).length 0 _ rfl (by simp [actY]) (by simp)
        · rw [hs', List.map_append, textT_app, List.map_singleton, textT_ru, he]
          simp
        · simp only [List.length_append, List.length_cons, List.length_nil] at hl'; omega
      | succ d ih =>
        intro q hq
        have hql : q < (outsM n k).length := by omega
        apply T_lM_10
        unfold S_lM_10
        rw [lss_n, BR_dec, if_pos hql]
        obtain ⟨p, e1, e2⟩ := h10.at hql .i64
        have h1 := ho1 _ (List.getElem_mem hql)
        have h2 := spN_len ((outsM n k).take q) fun x hx => ho1 x (List.mem_of_mem_take hx)
        rw [List.length_take] at h2
        rw [e1, OP_some, e2, OP_some]
        show OP (binS .add (sv _) (sv [32])) _
        rw [sv_add _ _ (by simp only [List.length_append, List.length_cons, List.length_nil]; omega), sv_add _ _ (by simp only [List.length_append, List.length_cons, List.length_nil]; omega), add1_n _ (by omega)]
        have := ih (q + 1) (by omega)
        rw [List.take_succ_eq_append_getElem hql, spN_snoc] at this
        simpa using this
    have := s10 (outsM n k).length 0 rfl
    simpa [spN, spjT] using this
  -- what is phony
  have s8 : P_lM_8 x0 x3 x4 x5 (sv s) (iv ((n + (outsM n k).length : Nat) : Int)) (iv (i : Int)) (iv k) x10 (sv (spN (insM n k))) (sv (ordX n k)) M Q := by
    apply T_lM_8
    unfold S_lM_8
    rw [shrand k 22 7 22 7 rfl rfl (by decide) (by decide), eql_l 0 0 rfl, BR_dec]
    have hph := textT_ph n k
    split
    · rename_i h0
      rw [if_pos h0] at hph
      show OP (binS .add (sv s) (sv [112, 104, 111, 110, 121, 32, 112])) _
      have hnl := nmD_len (n + (outsM n k).length - 1)
      rw [sv_add _ _ (by simp only [List.length_append, List.length_cons, List.length_nil]; omega), sub_l 1 1 rfl (by omega) (by omega), nm_ld hI.hn (show _ < 8 by omega), sv_add _ _ (by simp only [List.length_append, List.length_cons, List.length_nil]; omega)]
      show OP (binS .add (sv _) (sv [32, 58])) _
      rw [sv_add _ _ (by simp only [List.length_append, List.length_cons, List.length_nil]; omega), sv_add _ _ (by simp only [List.length_append, List.length_cons, List.length_nil]; omega)]
      show OP (binS .add (sv _) (sv [10])) _
      rw [sv_add _ _ (by simp only [List.length_append, List.length_cons, List.length_nil]; omega)]
      exact s9 _ (by rw [hph]; simp) (by simp only [List.length_append, List.length_cons, List.length_nil]; omega)
    · rename_i h0
      rw [if_neg h0] at hph
      exact s9 s (by rw [hph, List.append_nil]) (by omega)
  -- the order
  have s7 : P_lM_7 x0 x3 x4 x5 (sv s) (iv ((n + (outsM n k).length : Nat) : Int)) (iv (i : Int)) (iv k) x10 (sv (spN (insM n k))) (sv []) M Q := by
    apply T_lM_7
    unfold S_lM_7
    rw [shrand k 17 3 17 3 rfl rfl (by decide) (by decide), eql_l 0 0 rfl, BR_dec]
    have h8 := s8
    unfold ordX at h8
    split
    · rename_i h0
      rw [h10.len, OP_some, gtr_n, BR_dec]
      split
      · rename_i h1
        rw [if_pos ⟨h0, by omega⟩] at h8
        rw [shrand k 19 7 19 7 rfl rfl (by decide) (by decide), OP_some, sub_n _ _ (by omega) (by omega), hsub, rem_n _ _ (by omega)]
        have hm := Nat.mod_lt (andN (shrN k 19) 7) (show 0 < n by omega)
        rw [nm_ld hI.hn (show _ < 8 by omega)]
        show OP (binS .add (sv [32, 124, 32]) (sv _)) _
        have := nmD_len (andN (shrN k 19) 7 % n)
        rw [sv_add _ _ (by simp only [List.length_append, List.length_cons, List.length_nil]; omega)]
        exact h8
      · rename_i h1
        rw [if_neg (by omega)] at h8
        exact h8
    · rename_i h0
      rw [if_neg (by omega)] at h8
      exact h8
  -- the inputs
  have hcnt := andN_le (shrN k 3) 3 (by decide)
  have s5 : ∀ (d q : Nat), d + q = andN (shrN k 3) 3 → P_lM_5 x0 x3 x4 x5 (sv s) (iv ((n + (outsM n k).length : Nat) : Int)) (iv (i : Int)) (iv k) x10 (sv (spN ((List.range q).map (inM n k)))) (sv []) (iv (q : Int)) M Q := by
    intro d
    induction d with
    | zero =>
      intro q hq
      apply T_lM_5
      unfold S_lM_5
      rw [shrand k 3 3 3 3 rfl rfl (by decide) (by decide), lss_n, BR_dec, if_neg (by omega)]
      have : q = andN (shrN k 3) 3 := by omega
      subst this
      exact s7
    | succ d ih =>
      intro q hq
      apply T_lM_5
      unfold S_lM_5
      rw [shrand k 3 3 3 3 rfl rfl (by decide) (by decide), lss_n, BR_dec, if_pos (by omega)]
      apply T_lM_6
      unfold S_lM_6
      rw [shrvar k 5 4 15 q 5 4 15 rfl rfl rfl (by omega) (by decide) (by decide) (by decide)]
      have hsl : (spN ((List.range q).map (inM n k))).length ≤ q * 2 := by
        have := spN_len ((List.range q).map (inM n k)) fun x hx => by
          obtain ⟨j, _, rfl⟩ := List.mem_map.1 hx
          exact inM_len n k j
        rwa [List.length_map, List.length_range] at this
      have nxt : ∀ w : List UInt8, w = inM n k q → OP (binS .add (sv (spN ((List.range q).map (inM n k)) ++ [32])) (sv w)) fun t96 => OP (binI .add (iv (q : Int)) (.int .i64 1)) fun t69 => P_lM_5 x0 x3 x4 x5 (sv s) (iv ((n + (outsM n k).length : Nat) : Int)) (iv (i : Int)) (iv k) x10 t96 (sv []) t69 M Q := by
        intro w hw
        have hwl := inM_len n k q
        rw [hw, sv_add _ _ (by simp only [List.length_append, List.length_cons, List.length_nil]; omega), add1_n _ (by omega)]
        have := ih (q + 1) (by omega)
        rw [List.range_succ, List.map_append, List.map_singleton, spN_snoc] at this
        exact this
      have src : ¬ (andN (shrN k (5 + 4 * q)) 15 < 8 ∧ 0 < n) → OP (binS .add (sv (spN ((List.range q).map (inM n k)))) (.string ⟨#[32]⟩)) fun t98 => OP (binI .rem (iv (andN (shrN k (5 + 4 * q)) 15 : Int)) (.int .i64 3)) fun t101 => OP (ixA 1 x4 t101) fun t102 => OP (ld 1 false t102 M) fun t103 => OP (binS .add t98 t103) fun t104 => OP (binI .add (iv (q : Int)) (.int .i64 1)) fun t69 => P_lM_5 x0 x3 x4 x5 (sv s) (iv ((n + (outsM n k).length : Nat) : Int)) (iv (i : Int)) (iv k) x10 t104 (sv []) t69 M Q := by
        intro hno
        show OP (binS .add (sv _) (sv [32])) _
        rw [sv_add _ _ (by simp only [List.length_append, List.length_cons, List.length_nil]; omega)]
        show OP (binI .rem (iv _) (iv ((3 : Nat) : Int))) _
        rw [rem_n _ 3 (by decide), nm_ld hI.hs (show _ < 3 from Nat.mod_lt _ (by decide))]
        exact nxt _ (by unfold inM; rw [if_neg hno])
      rw [lss_l 8 8 rfl, BR_dec]
      split
      · rename_i h8
        rw [h10.len, OP_some, gtr_n, BR_dec]
        split
        · rename_i h0
          show OP (binS .add (sv _) (sv [32])) _
          rw [sv_add _ _ (by simp only [List.length_append, List.length_cons, List.length_nil]; omega), OP_some, sub_n _ _ (by omega) (by omega), hsub, rem_n _ _ (by omega)]
          have hm := Nat.mod_lt (andN (shrN k (5 + 4 * q)) 15) (show 0 < n by omega)
          rw [nm_ld hI.hn (show _ < 8 by omega)]
          exact nxt _ (by unfold inM; rw [if_pos ⟨h8, by omega⟩])
        · rename_i h0
          exact src (by omega)
      · rename_i h8
        exact src (by omega)
  apply T_lM_4
  unfold S_lM_4
  have := s5 (andN (shrN k 3) 3) 0 rfl
  simpa [spN, spjT] using this
theorem mn_1 (hQ : ∀ v M', Up M0 M' → N M0 M' v T → T.length ≤ 4200 → Q v M') :
    ∀ (d i n : Nat) (s : List UInt8) (M : Store), d + i = 7 → n ≤ 7 → MnI M0 M x0 x3 x4 x5 l → s.length ≤ 600 * i → s ++ textT ((manG n ((l.take 7).drop i)).map rowT) = T → P_lM_1 x0 x3 x4 x5 (sv s) (iv (n : Int)) (iv (i : Int)) M Q := by
  have fin : ∀ (s : List UInt8) (M : Store), MnI M0 M x0 x3 x4 x5 l → s = T → s.length ≤ 4200 → P_lM_3 (sv s) M Q := by
    intro s M hI he hs
    subst he
    apply T_lM_3
    unfold S_lM_3
    refine cvSB_ok (by omega) fun v M1 u1 h1 => ?_
    obtain ⟨a, c, rfl⟩ := h1.sl.slice
    exact ⟨rfl, hQ _ _ (hI.u.trans u1) (Nw.base h1 hI.u.n) hs⟩
  intro d
  induction d with
  | zero =>
    intro i n s M hi hn hI hs he
    rw [List.drop_of_length_le (by rw [List.length_take]; omega), manG, List.map_nil] at he
    have he : s = T := by rw [← he]; simp [textT]
    apply T_lM_1
    unfold S_lM_1
    rw [hI.hl.len, OP_some, lss_n, BR_dec]
    split
    · rw [lss_l 7 7 rfl, BR_dec]
      split
      · rw [lss_l 7 7 rfl, BR_dec, if_neg (by omega)]
        exact fin s M hI he (by omega)
      · exact fin s M hI he (by omega)
    · exact fin s M hI he (by omega)
  | succ d ih =>
    intro i n s M hi hn hI hs he
    apply T_lM_1
    unfold S_lM_1
    rw [hI.hl.len, OP_some, lss_n, BR_dec]
    split
    · rename_i hil
      have htl : i < (l.take 7).length := by rw [List.length_take]; omega
      rw [List.drop_eq_getElem_cons htl, List.getElem_take, manG] at he
      rw [lss_l 7 7 rfl, BR_dec]
      split
      · rename_i hn7
        rw [if_pos hn7] at he
        rw [lss_l 7 7 rfl, BR_dec, if_pos (by omega)]
        apply T_lM_2
        unfold S_lM_2
        obtain ⟨p, e1, e2⟩ := hI.hl.at hil .i64
        rw [e1, OP_some, e2, OP_some, nm_ld hI.hn (show n < 8 by omega)]
        generalize l[i] = k at *
        rw [bl_s1]
        refine s_lit (s := 1) (n := 1) rfl fun M1 u1 hN1 o1 n1 => ?_
        have hN1 : NV sv Ty.string M M1 (.slice (some ⟨M.n, 0, none⟩) 1 1) [nmG n] := hN1
        have go : ∀ (M2 : Store) (x10 : Value), MnI M0 M2 x0 x3 x4 x5 l → LV sv Ty.string M2 x10 (outsM n k) → P_lM_4 x0 x3 x4 x5 (sv s) (iv ((n + (outsM n k).length : Nat) : Int)) (iv (i : Int)) (iv k) x10 M2 Q := by
          intro M2 x10 hI2 h10
          have hol := outsM_len n k
          have htwo : twoM n k = true → n + 1 < 7 := fun h => by
            unfold twoM at h
            rw [Bool.and_eq_true, decide_eq_true_eq, decide_eq_true_eq] at h
            exact h.2
          have hoh : n + (outsM n k).length ≤ 7 ∧ (outsM n k).length ≤ 2 := by
            rw [hol]; split
            · rename_i h; have := htwo h; omega
            · omega
          refine mn_4 hI2 (by omega) hn7 h10 hoh.2 hoh.1 fun M' hI' s' hs' hl' => ?_
          apply T_lM_16
          unfold S_lM_16
          rw [add1_n _ (by omega)]
          refine ih (i + 1) _ s' M' (by omega) hoh.1 hI' (by omega) ?_
          rw [← he, hs', List.append_assoc, ← textT_app, ← List.map_append]
          simp
        have one : twoM n k = false → outsM n k = [nmG n] := fun h => by unfold outsM; rw [h]; rfl
        have two : twoM n k = true → outsM n k = [nmG n, nmG (n + 1)] := fun h => by unfold outsM; rw [h]; rfl
        rw [add1_n _ (by omega)]
        show OP (binI .and (.int .i64 k) (.int .i64 ((7 : Nat) : Int))) _
        rw [e_andN k 7 (by decide), OP_some]
        show OP (binI .eql (iv (andN k 7 : Int)) (.int .i64 7)) _
        rw [eql_l 7 7 rfl, BR_dec]
        split
        · rename_i h7
          rw [lss_l 7 7 rfl, BR_dec]
          split
          · rename_i hn1
            have h2 : twoM n k = true := by unfold twoM; rw [decide_eq_true h7, decide_eq_true hn1]; rfl
            rw [nm_ld (hI.up u1).hn (show n + 1 < 8 by omega), bl_s1, LT_eq]
            refine NV.app1 (M0 := M) (Mb := M) u1 (Nat.le_refl _) u1.n hN1 (nmG (n + 1)) rfl (by simp) fun v4 M4 hu4 hN4 _ _ => ?_
            rw [add1_n _ (by omega)]
            have := go M4 v4 (hI.up hu4) (by rw [two h2]; exact hN4.lv)
            rw [two h2] at this
            exact this
          · rename_i hn1
            have h2 : twoM n k = false := by unfold twoM; rw [decide_eq_false hn1, Bool.and_false]
            have := go M1 _ (hI.up u1) (by rw [one h2]; exact hN1.lv)
            rw [one h2] at this
            exact this
        · rename_i h7
          have h2 : twoM n k = false := by unfold twoM; rw [decide_eq_false h7, Bool.false_and]
          have := go M1 _ (hI.up u1) (by rw [one h2]; exact hN1.lv)
          rw [one h2] at this
          exact this
      · rename_i hn7
        rw [if_neg hn7] at he
        exact fin s M hI (by rw [← he]; simp [textT]) (by omega)
    · rename_i hil
      rw [List.drop_of_length_le (by rw [List.length_take]; omega), manG, List.map_nil] at he
      exact fin s M hI (by rw [← he]; simp [textT]) (by omega)
theorem lit_s {n : Nat} {cs : List (List UInt8)} {M : Store} {k : Value → Store → Prop} (hl : cs.length = n) (h : ∀ M1, Up M M1 → LV sv Ty.string M1 (.slice (some ⟨M.n, 0, none⟩) n n) cs → k (.slice (some ⟨M.n, 0, none⟩) n n) M1) :
    LT (.slice (some ⟨M.n, 0, none⟩) n n) (M.push (some (.inl (cs.map sv, Ty.string, true)))) k := by
  subst hl
  exact s_lit (s := 1) (n := cs.length) (by simp) fun M1 u1 hN o1 n1 => h M1 u1 (Nw.sl hN)
theorem Manifest_ok {M : Store} (h : LV iv Ty.int M x0 l) : R F.lM #[x0] M fun v M' => Up M M' ∧ N M M' v (textT ((manF l).map rowT)) ∧ (textT ((manF l).map rowT)).length ≤ 4200 := by
  refine R.cps fun Q hQ => ?_
  apply T_lM
  unfold S_lM
  rw [show bldL (.string ⟨#[]⟩) 1 8 [(0, (.string ⟨#[97]⟩)), (1, (.string ⟨#[98]⟩)), (2, (.string ⟨#[99]⟩)), (3, (.string ⟨#[100]⟩)), (4, (.string ⟨#[101]⟩)), (5, (.string ⟨#[102]⟩)), (6, (.string ⟨#[103]⟩)), (7, (.string ⟨#[104]⟩))] = some (nmS.map sv) from by kernel_rfl, OP_some]
  refine lit_s (cs := nmS) rfl fun M1 u1 h1 => ?_
  rw [show bldL (.string ⟨#[]⟩) 1 3 [(0, (.string ⟨#[115]⟩)), (1, (.string ⟨#[116]⟩)), (2, (.string ⟨#[117]⟩))] = some (srS.map sv) from by kernel_rfl, OP_some]
  refine lit_s (cs := srS) rfl fun M2 u2 h2 => ?_
  have e8 : ∀ K : List Value → Prop, OP (bldL (.string ⟨#[]⟩) 1 8 [(0, (.string ⟨#[97, 108, 108]⟩)), (1, (.string ⟨#[97, 108, 108, 32, 59, 32, 117, 112, 112, 101, 114]⟩)), (2, (.string ⟨#[105, 110, 32, 48]⟩)), (3, (.string ⟨#[97, 108, 108, 32, 59, 32, 114, 101, 118]⟩)), (4, (.string ⟨#[116, 101, 120, 116, 32, 34, 107, 34]⟩)), (5, (.string ⟨#[97, 108, 108, 32, 59, 32, 116, 119, 105, 99, 101, 32, 59, 32, 116, 97, 107, 101, 32, 57]⟩)), (6, (.string ⟨#[97, 108, 108, 32, 59, 32, 106, 111, 105, 110, 32, 34, 46, 34, 32, 59, 32, 116, 97, 107, 101, 32, 50, 48]⟩)), (7, (.string ⟨#[97, 108, 108, 32, 59, 32, 102, 97, 105, 108]⟩))]) K = K (acS.map sv) := fun K => by kernel_rfl
  rw [e8]
  refine lit_s (cs := acS) rfl fun M3 u3 h3 => ?_
  exact mn_1 (M0 := M) (T := textT ((manF l).map rowT)) (fun v M' hu hN hl => hQ _ _ ⟨hu, hN, hl⟩) 7 0 0 [] M3 rfl (by decide) ⟨((h.up u1).up u2).up u3, (h1.up u2).up u3, h2.up u3, h3, (u1.trans u2).trans u3⟩ (by simp) (by rw [List.drop_zero]; rfl)
end
end Go.G
