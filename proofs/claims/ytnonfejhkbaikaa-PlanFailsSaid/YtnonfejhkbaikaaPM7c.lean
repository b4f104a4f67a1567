/- Manifests of numbers: the text that the statements make. -/
import Derived.Test.YtnonfejhkbaikaaPUG
import Derived.Test.YtnonfejhkbaikaaPUM
import Derived.Test.YtnonfejhkbaikaaPN1
import Derived.Test.YtnonfejhkbaikaaPAbStep
namespace Go.G
open Go.Ab Go.Proofs Go.RowKit
set_option linter.unusedVariables false
set_option linter.unusedSimpArgs false
set_option maxRecDepth 100000
theorem mz (k : Int) (c m : Nat) (c' m' : Int) (hc' : (c : Int) = c') (hm' : (m : Int) = m') (hc : c ≤ 64) (hm : m < 2 ^ 62) (K : Value → Prop) :
    (OP (ad .shr (iv k) (.int .u64 c')) fun t => OP (ad .and t (.int .i64 m')) K) = K (iv (aW (bK k c) m : Int)) := by
 subst hc' hm'
 rw [IF k c hc]
 rw [AB _ m hm, ab]
theorem FB (k : Int) (a b m q : Nat) (a' b' m' : Int) (ha' : (a : Int) = a') (hb' : (b : Int) = b') (hm' : (m : Int) = m') (hq : q ≤ 7) (ha : a ≤ 24) (hb : b ≤ 4) (hm : m < 2 ^ 62) (K : Value → Prop) :
    (OP (ad .mul (.int .i64 b') (iv (q : Int))) fun t72 => OP (ad .add (.int .i64 a') t72) fun t73 => OP (cvI .u64 t73) fun t74 => OP (ad .shr (iv k) t74) fun t75 => OP (ad .and t75 (.int .i64 m')) K) = K (iv (aW (bK k (a + b * q)) m : Int)) := by
 subst ha' hb' hm'
 have hbq : b * q ≤ 28 := Nat.mul_le_mul hb hq
 rw [show ad .mul (.int .i64 (b : Int)) (iv (q : Int)) = some (iv ((b * q : Nat) : Int)) from by
  have h : ad .mul (.int .i64 (b : Int)) (.int .i64 (q : Int)) = some (.int .i64 (IntKind.wrap .i64 ((b : Int) * (q : Int)))) := rfl
  show ad .mul (.int .i64 (b : Int)) (.int .i64 (q : Int)) = _
  have e : (b : Int) * (q : Int) = ((b * q : Nat) : Int) := by simp
  rw [h, e, J2 _ (by omega)], ab, wq _ _ (by omega)]
 have ec : ∀ K : Value → Prop, OP (cvI .u64 (iv ((a + b * q : Nat) : Int))) K = K (.int .u64 ((a + b * q : Nat) : Int)) := fun K => by
  show OP (cvI .u64 (.int .i64 _)) K = _
  rw [Dv]
  have : IntKind.wrap .u64 ((a + b * q : Nat) : Int) = ((a + b * q : Nat) : Int) := by simp [IntKind.wrap, IntKind.bits, IntKind.signed]; omega
  rw [this]
 rw [ec]
 exact mz k (a + b * q) m _ _ rfl rfl (by omega) hm K
theorem wK (a b : Nat) (hb : 0 < b) (K : Value → Prop) : OP (ad .rem (iv (a : Int)) (iv (b : Int))) K = K (iv ((a % b : Nat) : Int)) := by
 have : ad .rem (iv (a : Int)) (iv (b : Int)) = some (iv ((a % b : Nat) : Int)) := Jt a b hb
 rw [this, ab]
theorem GV (x : ByteArray) (K : List Value → Prop) : OP (al (.string ⟨#[]⟩) 1 1 [(0, .string x)]) K = K [.string x] := by kernel_rfl
theorem uI {l : List (List UInt8)} {m : Nat} (h : ∀ x ∈ l, x.length ≤ m) (i : Nat) : (l.getD i []).length ≤ m := by
 rw [List.getD_eq_getElem?_getD]
 cases e : l[i]? with
 | none => simp
 | some x => exact h x (List.mem_of_getElem? e)
theorem oM (i : Nat) : (nmG i).length ≤ 1 := uI (by decide) i
theorem Cq (i : Nat) : (nmS.getD i []).length ≤ 1 := oM i
theorem H7 (i : Nat) : (srG i).length ≤ 1 := uI (by decide) i
abbrev acG (i : Nat) : List UInt8 := acS.getD i []
theorem Hf (i : Nat) : (acG i).length ≤ 40 := uI (by decide) i
theorem xx (n : Nat) (k : Int) (q : Nat) : (inM n k q).length ≤ 1 := by
 unfold inM; split
 ·exact oM _
 ·exact H7 _
abbrev spN (l : List (List UInt8)) : List UInt8 := di (l.map wT)
theorem A2 (l : List (List UInt8)) (x : List UInt8) : spN (l ++ [x]) = spN l ++ [32] ++ x := by simp [spN, di, spT]
theorem oS : ∀ l : List (List UInt8), (∀ x ∈ l, x.length ≤ 1) → (spN l).length ≤ l.length * 2
 | [], _ => by simp [spN, di]
 | x :: l, h => by
  have h1 := h x (by simp)
  have h2 := oS l fun y hy => h y (by simp [hy])
  have e : spN (x :: l) = 32 :: (x ++ spN l) := by simp [spN, di, spT]
  rw [e, List.length_cons, List.length_append, List.length_cons]; omega
def i7 : Bool → List Nat → List UInt8
 | _, [] => []
 | b, a :: r => (if b = true then [] else [32, 44]) ++ (32 :: acG a ++ i7 false r)
theorem xZ : ∀ (l : List Nat) (b : Bool) (a : Nat), i7 b (l ++ [a]) = i7 b l ++ ((if b = true ∧ l = [] then [] else [32, 44]) ++ (32 :: acG a))
 | [], b, a => by cases b <;> simp [i7]
 | x :: l, b, a => by
  rw [List.cons_append, i7, i7, xZ l false a]
  cases b <;> simp
theorem Ad {a : Nat} (h : a < 8) : di (aWt a) = 32 :: acG a := by
 rw [FD (pj _ (oF h)).1]
 congr 1
 have hl : a < gz.length := h
 show cP (gz.getD a []) = acS.getD a []
 rw [FW, List.getD_eq_getElem?_getD, List.getD_eq_getElem?_getD, List.getElem?_map, List.getElem?_eq_getElem hl]; rfl
theorem wo : ∀ l : List Nat, (∀ a ∈ l, a < 8) → di (bz l) = i7 true l
 | [], _ => rfl
 | [a], h => by
  simp only [bz, i7, if_true, List.append_nil, List.nil_append]
  exact Ad (h a (by simp))
 | a :: b :: r, h => by
  rw [bz, if_neg (by simp), pT, jT, Ad (h a (by simp)), wo (b :: r) fun x hx => h x (by simp [hx])]
  simp [i7, spT]
def mu (n : Nat) (k : Int) : List UInt8 := if aW (bK k 17) 3 = 0 ∧ 0 < n then [32, 124, 32] ++ nmG (aW (bK k 19) 7 % n) else []
theorem yw (a b : List (List Tw)) : bq (a ++ b) = bq a ++ bq b := by simp [bq]
theorem GM (n : Nat) (k : Int) : bq ((phM n k).map a7) = if aW (bK k 22) 7 = 0 then [112, 104, 111, 110, 121, 32, 112] ++ nmG (n + (am n k).length - 1) ++ [32, 58] ++ spN (eZ n k) ++ [10] else [] := by
 unfold phM
 split
 ·simp only [List.map_cons, List.map_nil, bq, List.flatMap_cons, List.flatMap_nil, List.append_nil]
  unfold a7
  rw [if_pos rfl, kH]
  simp [di, spT]
 ·rfl
theorem GN (n : Nat) (k : Int) : bq [a7 (ruM n k)] = iK ++ spN (am n k) ++ [32, 58] ++ spN (eZ n k) ++ mu n k ++ [32, 61] ++ i7 true ((List.range (am n k).length).map (acM k)) ++ [10] := by
 have ha := wo ((List.range (am n k).length).map (acM k)) fun a ha => by
  obtain ⟨q, _, rfl⟩ := List.mem_map.1 ha
  exact EH k q
 simp only [bq, List.flatMap_cons, List.flatMap_nil, List.append_nil]
 unfold a7
 rw [if_neg (by simp [ruM]), kH]
 have ho : di (if (ruM n k).order = [] then [] else wT [124] :: (ruM n k).order.map wT) = mu n k := by
  show di (if sO n k = [] then [] else wT [124] :: (sO n k).map wT) = mu n k
  unfold sO mu
  split <;> simp [di, spT]
 rw [pT, jT, pT, pT, ho, jT]
 show _ ++ (_ ++ _ :: (_ ++ (_ ++ (_ ++ _ :: (_ ++ di (bz ((List.range (am n k).length).map (acM k)))))))) ++ _ = _
 rw [ha]
 simp [spT, ruM]
section
variable {M0 : Store} {x0 x3 x4 x5 : Value} {l : List Int} {T : List UInt8} {Q : Value → Store → Prop}
structure MnI (M0 M : Store) (x0 x3 x4 x5 : Value) (l : List Int) : Prop where
 hl : LV iv Ty.b M x0 l
 hn : LV sv Ty.a M x3 nmS
 hs : LV sv Ty.a M x4 srS
 ha : LV sv Ty.a M x5 acS
 u : Up M0 M
theorem MnI.up {M M' : Store} (h : MnI M0 M x0 x3 x4 x5 l) (k : Up M M') : MnI M0 M' x0 x3 x4 x5 l := ⟨h.hl.up k, h.hn.up k, h.hs.up k, h.ha.up k, h.u.trans k⟩
theorem pK {M : Store} {x : Value} {xs : List (List UInt8)} (h : LV sv Ty.a M x xs) {i : Nat} (hi : i < xs.length) (K : Value → Prop) : (OP (ixA 1 x (iv (i : Int))) fun p => OP (ld 1 false p M) K) = K (sv (xs.getD i [])) := by
 obtain ⟨p, e1, e2⟩ := h.at hi .i64
 rw [e1, ab, e2, ab, List.getD_eq_getElem?_getD, List.getElem?_eq_getElem hi]; rfl
theorem Jv {i n' : Nat} {k : Int} {s : List UInt8} {M : Store} (hI : MnI M0 M x0 x3 x4 x5 l) (hs : s.length ≤ 2 ^ 20) {m : Nat} (hm : m ≤ 2)
    (hk : ∀ M', MnI M0 M' x0 x3 x4 x5 l → ∀ s' : List UInt8, s' = s ++ i7 true ((List.range m).map (acM k)) ++ [10] → s'.length ≤ s.length + 200 → oa x0 x3 x4 x5 (sv s') (iv (n' : Int)) (iv (i : Int)) M' Q) :
    ∀ (d q : Nat) (s' : List UInt8), d + q = m → s' = s ++ i7 true ((List.range q).map (acM k)) → s'.length ≤ s.length + q * 50 → kQ x0 x3 x4 x5 (sv s') (iv (n' : Int)) (iv (i : Int)) (iv k) (iv (m : Int)) (iv (q : Int)) M Q := by
 intro d
 induction d with
 | zero =>
  intro q s' hq he hl
  apply Cc
  unfold w9
  rw [ag, ae, if_neg (by omega)]
  apply G7
  unfold B5
  show OP (ao .add (sv s') (sv [10])) _
  rw [bJ _ _ (by simp only [List.length_append, List.length_cons, List.length_nil]; omega)]
  have : q = m := by omega
  subst this
  exact hk M hI _ (by rw [he]) (by simp only [List.length_append, List.length_cons, List.length_nil]; omega)
 | succ d ih =>
  intro q s' hq he hl
  apply Cc
  unfold w9
  rw [ag, ae, if_pos (by omega)]
  have s15 : ∀ s2 : List UInt8, s2 = s' ++ (if q = 0 then [] else [32, 44]) → s2.length ≤ s'.length + 2 → n0 x0 x3 x4 x5 (sv s2) (iv (n' : Int)) (iv (i : Int)) (iv k) (iv (q : Int)) (iv (m : Int)) (iv (q : Int)) M Q := by
   intro s2 hs2 hl2
   apply G8
   unfold B6
   rw [FB k 24 2 7 q 24 2 7 rfl rfl rfl (by omega) (by decide) (by decide) (by decide), hI.ha.len, ab]
   show OP (ad .rem (iv _) (iv ((8 : Nat) : Int))) _
   rw [wK _ 8 (by decide)]
   have hlt := Nat.mod_lt (aW (bK k (24 + 2 * q)) 7) (show 0 < 8 by decide)
   rw [pK hI.ha (show _ < 8 from hlt)]
   rw [mz k 28 3 28 3 rfl rfl (by decide) (by decide), wF 0 0 rfl, ae]
   have last : ∀ a : Nat, a = acM k q → OP (ao .add (sv s2) (.string ⟨#[32]⟩)) (fun t => OP (ao .add t (sv (acG a))) fun t196 => kR x0 x3 x4 x5 t196 (iv (n' : Int)) (iv (i : Int)) (iv k) (iv (m : Int)) (iv (q : Int)) M Q) := by
    intro a ha
    have hal := Hf a
    show OP (ao .add (sv s2) (sv [32])) _
    rw [bJ _ _ (by simp only [List.length_append, List.length_cons, List.length_nil]; omega), bJ _ _ (by simp only [List.length_append, List.length_cons, List.length_nil]; omega)]
    apply Ha
    unfold B8
    rw [ah _ (by omega)]
    refine ih (q + 1) _ (by omega) ?_ (by simp only [List.length_append, List.length_cons, List.length_nil]; omega)
    rw [hs2, he, List.range_succ, List.map_append, List.map_singleton, xZ, ha]
    by_cases h0 : q = 0
    ·subst h0; simp
    ·simp [h0]
   split
   ·rename_i h0
    show OP (ao .eql (sv (acG _)) (sv (acG 7))) _
    rw [jz, ae]
    split
    ·rename_i h7
     refine last 0 ?_
     unfold acM
     have : ∀ j, j < 8 → acG j = acG 7 → j = 7 := by decide +kernel
     rw [if_pos ⟨h0, this _ hlt h7⟩]
    ·rename_i h7
     refine last _ ?_
     unfold acM
     rw [if_neg]
     rintro ⟨_, h⟩
     exact h7 (by rw [h])
   ·rename_i h0
    refine last _ ?_
    unfold acM
    rw [if_neg]
    rintro ⟨h, _⟩
    exact h0 h
  apply G6
  unfold B4
  rw [wF 0 0 rfl, ae]
  split
  ·rename_i h0
   show OP (ao .add (sv s') (sv [32, 44])) _
   rw [bJ _ _ (by simp only [List.length_append, List.length_cons, List.length_nil]; omega)]
   exact s15 _ (by rw [if_neg (by omega)]) (by simp)
  ·rename_i h0
   exact s15 s' (by rw [if_pos (by omega), List.append_nil]) (by omega)
theorem JQ {n i : Nat} {k : Int} {s : List UInt8} {M : Store} (hI : MnI M0 M x0 x3 x4 x5 l) (hs : s.length ≤ 2 ^ 19) (hn : n < 7) {x10 : Value} (h10 : LV sv Ty.a M x10 (am n k)) (hol : (am n k).length ≤ 2)
    (hoh : n + (am n k).length ≤ 7)
    (hk : ∀ M', MnI M0 M' x0 x3 x4 x5 l → ∀ s' : List UInt8, s' = s ++ bq ((phM n k ++ [ruM n k]).map a7) → s'.length ≤ s.length + 600 → oa x0 x3 x4 x5 (sv s') (iv ((n + (am n k).length : Nat) : Int)) (iv (i : Int)) M' Q) :
    k7 x0 x3 x4 x5 (sv s) (iv ((n + (am n k).length : Nat) : Int)) (iv (i : Int)) (iv k) x10 M Q := by
 have hol1 : 1 ≤ (am n k).length := by unfold am; simp
 have hil : (eZ n k).length ≤ 3 := by unfold eZ; rw [List.length_map, List.length_range]; exact sZ _ 3 (by decide)
 have hi1 : ∀ x ∈ eZ n k, x.length ≤ 1 := fun x hx => by
  obtain ⟨q, _, rfl⟩ := List.mem_map.1 hx
  exact xx n k q
 have ho1 : ∀ x ∈ am n k, x.length ≤ 1 := fun x hx => by
  unfold am at hx
  rcases List.mem_cons.1 hx with rfl | hx
  ·exact oM _
  ·split at hx
   ·rw [List.mem_singleton.1 hx]; exact oM _
   ·cases hx
 have hinl := oS _ hi1
 have hordl : (mu n k).length ≤ 4 := by
  unfold mu
  split
  ·have := oM (aW (bK k 19) 7 % n); simp only [List.length_append, List.length_cons, List.length_nil]; omega
  ·simp
 have hsub : n + (am n k).length - (am n k).length = n := by omega
 -- the GG
 have s9 : ∀ s1 : List UInt8, s1 = s ++ bq ((phM n k).map a7) → s1.length ≤ s.length + 100 → qE x0 x3 x4 x5 (sv s1) (iv ((n + (am n k).length : Nat) : Int)) (iv (i : Int)) (iv k) x10 (sv (spN (eZ n k))) (sv (mu n k)) M Q := by
  intro s1 he hl1
  apply Iu
  unfold Er
  show OP (ao .add (sv s1) (sv iK)) _
  rw [bJ _ _ (by simp only [List.length_append, List.length_cons, List.length_nil]; omega), h10.len, ab]
  have s10 : ∀ (d q : Nat), d + q = (am n k).length → kP x0 x3 x4 x5 (sv (s1 ++ iK ++ spN ((am n k).take q))) (iv ((n + (am n k).length : Nat) : Int)) (iv (i : Int)) (iv k) x10 (sv (spN (eZ n k))) (sv (mu n k)) x10 (iv ((am n k).length : Int)) (iv (q : Int)) M Q := by
   intro d
   induction d with
   | zero =>
    intro q hq
    apply Cb
    unfold w8
    rw [ag, ae, if_neg (by omega), List.take_of_length_le (by omega)]
    have hsl := oS _ ho1
    apply G5
    unfold B3
    show OP (ao .add (sv _) (sv [32, 58])) _
    rw [bJ _ _ (by simp only [List.length_append, List.length_cons, List.length_nil]; omega), bJ _ _ (by simp only [List.length_append, List.length_cons, List.length_nil]; omega), bJ _ _ (by simp only [List.length_append, List.length_cons, List.length_nil]; omega)]
    show OP (ao .add (sv _) (sv [32, 61])) _
    rw [bJ _ _ (by simp only [List.length_append, List.length_cons, List.length_nil]; omega), h10.len, ab]
    refine Jv (s := s1 ++ iK ++ spN (am n k) ++ [32, 58] ++ spN (eZ n k) ++ mu n k ++ [32, 61]) hI (by simp only [List.length_append, List.length_cons, List.length_nil]; omega) hol (fun M' hI' s' hs' hl' => hk M' hI' s' ?_ ?_) (am n k).length 0 _ rfl (by simp [i7]) (by simp)
    ·rw [hs', List.map_append, yw, List.map_singleton, GN, he]
     simp
    ·simp only [List.length_append, List.length_cons, List.length_nil] at hl'; omega
   | succ d ih =>
    intro q hq
    have hql : q < (am n k).length := by omega
    apply Cb
    unfold w8
    rw [ag, ae, if_pos hql]
    obtain ⟨p, e1, e2⟩ := h10.at hql .i64
    have h1 := ho1 _ (List.getElem_mem hql)
    have h2 := oS ((am n k).take q) fun x hx => ho1 x (List.mem_of_mem_take hx)
    rw [List.length_take] at h2
    rw [e1, ab, e2, ab]
    show OP (ao .add (sv _) (sv [32])) _
    rw [bJ _ _ (by simp only [List.length_append, List.length_cons, List.length_nil]; omega), bJ _ _ (by simp only [List.length_append, List.length_cons, List.length_nil]; omega), ah _ (by omega)]
    have := ih (q + 1) (by omega)
    rw [List.take_succ_eq_append_getElem hql, A2] at this
    simpa using this
  have := s10 (am n k).length 0 rfl
  simpa [spN, di] using this
 -- what is phony
 have s8 : od x0 x3 x4 x5 (sv s) (iv ((n + (am n k).length : Nat) : Int)) (iv (i : Int)) (iv k) x10 (sv (spN (eZ n k))) (sv (mu n k)) M Q := by
  apply It
  unfold Ep
  rw [mz k 22 7 22 7 rfl rfl (by decide) (by decide), bZ 0 0 rfl, ae]
  have hph := GM n k
  split
  ·rename_i h0
   rw [if_pos h0] at hph
   show OP (ao .add (sv s) (sv [112, 104, 111, 110, 121, 32, 112])) _
   have hnl := Cq (n + (am n k).length - 1)
   rw [bJ _ _ (by simp only [List.length_append, List.length_cons, List.length_nil]; omega), JH 1 1 rfl (by omega) (by omega), pK hI.hn (show _ < 8 by omega), bJ _ _ (by simp only [List.length_append, List.length_cons, List.length_nil]; omega)]
   show OP (ao .add (sv _) (sv [32, 58])) _
   rw [bJ _ _ (by simp only [List.length_append, List.length_cons, List.length_nil]; omega), bJ _ _ (by simp only [List.length_append, List.length_cons, List.length_nil]; omega)]
   show OP (ao .add (sv _) (sv [10])) _
   rw [bJ _ _ (by simp only [List.length_append, List.length_cons, List.length_nil]; omega)]
   exact s9 _ (by rw [hph]; simp) (by simp only [List.length_append, List.length_cons, List.length_nil]; omega)
  ·rename_i h0
   rw [if_neg h0] at hph
   exact s9 s (by rw [hph, List.append_nil]) (by omega)
 -- the order
 have s7 : vb x0 x3 x4 x5 (sv s) (iv ((n + (am n k).length : Nat) : Int)) (iv (i : Int)) (iv k) x10 (sv (spN (eZ n k))) (sv []) M Q := by
  apply Is
  unfold Eo
  rw [mz k 17 3 17 3 rfl rfl (by decide) (by decide), bZ 0 0 rfl, ae]
  have h8 := s8
  unfold mu at h8
  split
  ·rename_i h0
   rw [h10.len, ab, DB, ae]
   split
   ·rename_i h1
    rw [if_pos ⟨h0, by omega⟩] at h8
    rw [mz k 19 7 19 7 rfl rfl (by decide) (by decide), ab, wO _ _ (by omega) (by omega), hsub, wK _ _ (by omega)]
    have hm := Nat.mod_lt (aW (bK k 19) 7) (show 0 < n by omega)
    rw [pK hI.hn (show _ < 8 by omega)]
    show OP (ao .add (sv [32, 124, 32]) (sv _)) _
    have := Cq (aW (bK k 19) 7 % n)
    rw [bJ _ _ (by simp only [List.length_append, List.length_cons, List.length_nil]; omega)]
    exact h8
   ·rename_i h1
    rw [if_neg (by omega)] at h8
    exact h8
  ·rename_i h0
   rw [if_neg (by omega)] at h8
   exact h8
 -- the inputs
 have hcnt := sZ (bK k 3) 3 (by decide)
 have s5 : ∀ (d q : Nat), d + q = aW (bK k 3) 3 → gh x0 x3 x4 x5 (sv s) (iv ((n + (am n k).length : Nat) : Int)) (iv (i : Int)) (iv k) x10 (sv (spN ((List.range q).map (inM n k)))) (sv []) (iv (q : Int)) M Q := by
  intro d
  induction d with
  | zero =>
   intro q hq
   apply Et
   unfold zm
   rw [mz k 3 3 3 3 rfl rfl (by decide) (by decide), ag, ae, if_neg (by omega)]
   have : q = aW (bK k 3) 3 := by omega
   subst this
   exact s7
  | succ d ih =>
   intro q hq
   apply Et
   unfold zm
   rw [mz k 3 3 3 3 rfl rfl (by decide) (by decide), ag, ae, if_pos (by omega)]
   apply Ir
   unfold Em
   rw [FB k 5 4 15 q 5 4 15 rfl rfl rfl (by omega) (by decide) (by decide) (by decide)]
   have hsl : (spN ((List.range q).map (inM n k))).length ≤ q * 2 := by
    have := oS ((List.range q).map (inM n k)) fun x hx => by
     obtain ⟨j, _, rfl⟩ := List.mem_map.1 hx
     exact xx n k j
    rwa [List.length_map, List.length_range] at this
   have nxt : ∀ w : List UInt8, w = inM n k q → OP (ao .add (sv (spN ((List.range q).map (inM n k)) ++ [32])) (sv w)) fun t96 => OP (ad .add (iv (q : Int)) (.int .i64 1)) fun t69 => gh x0 x3 x4 x5 (sv s) (iv ((n + (am n k).length : Nat) : Int)) (iv (i : Int)) (iv k) x10 t96 (sv []) t69 M Q := by
    intro w hw
    have hwl := xx n k q
    rw [hw, bJ _ _ (by simp only [List.length_append, List.length_cons, List.length_nil]; omega), ah _ (by omega)]
    have := ih (q + 1) (by omega)
    rw [List.range_succ, List.map_append, List.map_singleton, A2] at this
    exact this
   have src : ¬ (aW (bK k (5 + 4 * q)) 15 < 8 ∧ 0 < n) → OP (ao .add (sv (spN ((List.range q).map (inM n k)))) (.string ⟨#[32]⟩)) fun t98 => OP (ad .rem (iv (aW (bK k (5 + 4 * q)) 15 : Int)) (.int .i64 3)) fun t101 => OP (ixA 1 x4 t101) fun t102 => OP (ld 1 false t102 M) fun t103 => OP (ao .add t98 t103) fun t104 => OP (ad .add (iv (q : Int)) (.int .i64 1)) fun t69 => gh x0 x3 x4 x5 (sv s) (iv ((n + (am n k).length : Nat) : Int)) (iv (i : Int)) (iv k) x10 t104 (sv []) t69 M Q := by
    intro hno
    show OP (ao .add (sv _) (sv [32])) _
    rw [bJ _ _ (by simp only [List.length_append, List.length_cons, List.length_nil]; omega)]
    show OP (ad .rem (iv _) (iv ((3 : Nat) : Int))) _
    rw [wK _ 3 (by decide), pK hI.hs (show _ < 3 from Nat.mod_lt _ (by decide))]
    exact nxt _ (by unfold inM; rw [if_neg hno])
   rw [eD 8 8 rfl, ae]
   split
   ·rename_i h8
    rw [h10.len, ab, DB, ae]
    split
    ·rename_i h0
     show OP (ao .add (sv _) (sv [32])) _
     rw [bJ _ _ (by simp only [List.length_append, List.length_cons, List.length_nil]; omega), ab, wO _ _ (by omega) (by omega), hsub, wK _ _ (by omega)]
     have hm := Nat.mod_lt (aW (bK k (5 + 4 * q)) 15) (show 0 < n by omega)
     rw [pK hI.hn (show _ < 8 by omega)]
     exact nxt _ (by unfold inM; rw [if_pos ⟨h8, by omega⟩])
    ·rename_i h0
     exact src (by omega)
   ·rename_i h8
    exact src (by omega)
 apply Iq
 unfold El
 have := s5 (aW (bK k 3) 3) 0 rfl
 simpa [spN, di] using this
theorem JP (hQ : ∀ v M', Up M0 M' → N M0 M' v T → T.length ≤ 4200 → Q v M') :
    ∀ (d i n : Nat) (s : List UInt8) (M : Store), d + i = 7 → n ≤ 7 → MnI M0 M x0 x3 x4 x5 l → s.length ≤ 600 * i → s ++ bq ((mn n ((l.take 7).drop i)).map a7) = T → nZ x0 x3 x4 x5 (sv s) (iv (n : Int)) (iv (i : Int)) M Q := by
 have fin : ∀ (s : List UInt8) (M : Store), MnI M0 M x0 x3 x4 x5 l → s = T → s.length ≤ 4200 → oc (sv s) M Q := by
  intro s M hI he hs
  subst he
  apply Ip
  unfold Ek
  refine Hs (by omega) fun v M1 u1 h1 => ?_
  obtain ⟨a, c, rfl⟩ := h1.sl.slice
  exact ⟨rfl, hQ _ _ (hI.u.trans u1) (Nw.base h1 hI.u.n) hs⟩
 intro d
 induction d with
 | zero =>
  intro i n s M hi hn hI hs he
  rw [List.drop_of_length_le (by rw [List.length_take]; omega), mn, List.map_nil] at he
  have he : s = T := by rw [← he]; simp [bq]
  apply Es
  unfold zl
  rw [hI.hl.len, ab, ag, ae]
  split
  ·rw [eD 7 7 rfl, ae]
   split
   ·rw [eD 7 7 rfl, ae, if_neg (by omega)]
    exact fin s M hI he (by omega)
   ·exact fin s M hI he (by omega)
  ·exact fin s M hI he (by omega)
 | succ d ih =>
  intro i n s M hi hn hI hs he
  apply Es
  unfold zl
  rw [hI.hl.len, ab, ag, ae]
  split
  ·rename_i hil
   have htl : i < (l.take 7).length := by rw [List.length_take]; omega
   rw [List.drop_eq_getElem_cons htl, List.getElem_take, mn] at he
   rw [eD 7 7 rfl, ae]
   split
   ·rename_i hn7
    rw [if_pos hn7] at he
    rw [eD 7 7 rfl, ae, if_pos (by omega)]
    apply Io
    unfold Ej
    obtain ⟨p, e1, e2⟩ := hI.hl.at hil .i64
    rw [e1, ab, e2, ab, pK hI.hn (show n < 8 by omega)]
    generalize l[i] = k at *
    rw [GV]
    refine pS (s := 1) (n := 1) rfl fun M1 u1 hN1 o1 n1 => ?_
    have hN1 : NV sv Ty.a M M1 (.slice (some ⟨M.n, 0, none⟩) 1 1) [nmG n] := hN1
    have go : ∀ (M2 : Store) (x10 : Value), MnI M0 M2 x0 x3 x4 x5 l → LV sv Ty.a M2 x10 (am n k) → k7 x0 x3 x4 x5 (sv s) (iv ((n + (am n k).length : Nat) : Int)) (iv (i : Int)) (iv k) x10 M2 Q := by
     intro M2 x10 hI2 h10
     have hol := yn n k
     have htwo : iN n k = true → n + 1 < 7 := fun h => by
      unfold iN at h
      rw [Bool.and_eq_true, decide_eq_true_eq, decide_eq_true_eq] at h
      exact h.2
     have hoh : n + (am n k).length ≤ 7 ∧ (am n k).length ≤ 2 := by
      rw [hol]; split
      ·rename_i h; have := htwo h; omega
      ·omega
     refine JQ hI2 (by omega) hn7 h10 hoh.2 hoh.1 fun M' hI' s' hs' hl' => ?_
     apply G9
     unfold B7
     rw [ah _ (by omega)]
     refine ih (i + 1) _ s' M' (by omega) hoh.1 hI' (by omega) ?_
     rw [← he, hs', List.append_assoc, ← yw, ← List.map_append]
     simp
    have one : iN n k = false → am n k = [nmG n] := fun h => by unfold am; rw [h]; rfl
    have two : iN n k = true → am n k = [nmG n, nmG (n + 1)] := fun h => by unfold am; rw [h]; rfl
    rw [ah _ (by omega)]
    show OP (ad .and (.int .i64 k) (.int .i64 ((7 : Nat) : Int))) _
    rw [AB k 7 (by decide), ab]
    show OP (ad .eql (iv (aW k 7 : Int)) (.int .i64 7)) _
    rw [bZ 7 7 rfl, ae]
    split
    ·rename_i h7
     rw [eD 7 7 rfl, ae]
     split
     ·rename_i hn1
      have h2 : iN n k = true := by unfold iN; rw [decide_eq_true h7, decide_eq_true hn1]; rfl
      rw [pK (hI.up u1).hn (show n + 1 < 8 by omega), GV, aY]
      refine NV.app1 (M0 := M) (Mb := M) u1 (Nat.le_refl _) u1.n hN1 (nmG (n + 1)) rfl (by simp) fun v4 M4 hu4 hN4 _ _ => ?_
      rw [ah _ (by omega)]
      have := go M4 v4 (hI.up hu4) (by rw [two h2]; exact hN4.lv)
      rw [two h2] at this
      exact this
     ·rename_i hn1
      have h2 : iN n k = false := by unfold iN; rw [decide_eq_false hn1, Bool.and_false]
      have := go M1 _ (hI.up u1) (by rw [one h2]; exact hN1.lv)
      rw [one h2] at this
      exact this
    ·rename_i h7
     have h2 : iN n k = false := by unfold iN; rw [decide_eq_false h7, Bool.false_and]
     have := go M1 _ (hI.up u1) (by rw [one h2]; exact hN1.lv)
     rw [one h2] at this
     exact this
   ·rename_i hn7
    rw [if_neg hn7] at he
    exact fin s M hI (by rw [← he]; simp [bq]) (by omega)
  ·rename_i hil
   rw [List.drop_of_length_le (by rw [List.length_take]; omega), mn, List.map_nil] at he
   exact fin s M hI (by rw [← he]; simp [bq]) (by omega)
theorem DF {n : Nat} {cs : List (List UInt8)} {M : Store} {k : Value → Store → Prop} (hl : cs.length = n) (h : ∀ M1, Up M M1 → LV sv Ty.a M1 (.slice (some ⟨M.n, 0, none⟩) n n) cs → k (.slice (some ⟨M.n, 0, none⟩) n n) M1) :
    LT (.slice (some ⟨M.n, 0, none⟩) n n) (M.push (some (.inl (cs.map sv, Ty.a, true)))) k := by
 subst hl
 exact pS (s := 1) (n := cs.length) (by simp) fun M1 u1 hN o1 n1 => h M1 u1 (Nw.sl hN)
theorem Ba {M : Store} (h : LV iv Ty.b M x0 l) : R F.lM #[x0] M fun v M' => Up M M' ∧ N M M' v (bq ((pH l).map a7)) ∧ (bq ((pH l).map a7)).length ≤ 4200 := by
 refine R.cps fun Q hQ => ?_
 apply JM
 unfold Im
 rw [show al (.string ⟨#[]⟩) 1 8 [(0, (.string ⟨#[97]⟩)), (1, (.string ⟨#[98]⟩)), (2, (.string ⟨#[99]⟩)), (3, (.string ⟨#[100]⟩)), (4, (.string ⟨#[101]⟩)), (5, (.string ⟨#[102]⟩)), (6, (.string ⟨#[103]⟩)), (7, (.string ⟨#[104]⟩))] = some (nmS.map sv) from by kernel_rfl, ab]
 refine DF (cs := nmS) rfl fun M1 u1 h1 => ?_
 rw [show al (.string ⟨#[]⟩) 1 3 [(0, (.string ⟨#[115]⟩)), (1, (.string ⟨#[116]⟩)), (2, (.string ⟨#[117]⟩))] = some (srS.map sv) from by kernel_rfl, ab]
 refine DF (cs := srS) rfl fun M2 u2 h2 => ?_
 have e8 : ∀ K : List Value → Prop, OP (al (.string ⟨#[]⟩) 1 8 [(0, (.string ⟨#[97, 108, 108]⟩)), (1, (.string ⟨#[97, 108, 108, 32, 59, 32, 117, 112, 112, 101, 114]⟩)), (2, (.string ⟨#[105, 110, 32, 48]⟩)), (3, (.string ⟨#[97, 108, 108, 32, 59, 32, 114, 101, 118]⟩)), (4, (.string ⟨#[116, 101, 120, 116, 32, 34, 107, 34]⟩)), (5, (.string ⟨#[97, 108, 108, 32, 59, 32, 116, 119, 105, 99, 101, 32, 59, 32, 116, 97, 107, 101, 32, 57]⟩)), (6, (.string ⟨#[97, 108, 108, 32, 59, 32, 106, 111, 105, 110, 32, 34, 46, 34, 32, 59, 32, 116, 97, 107, 101, 32, 50, 48]⟩)), (7, (.string ⟨#[97, 108, 108, 32, 59, 32, 102, 97, 105, 108]⟩))]) K = K (acS.map sv) := fun K => by kernel_rfl
 rw [e8]
 refine DF (cs := acS) rfl fun M3 u3 h3 => ?_
 exact JP (M0 := M) (T := bq ((pH l).map a7)) (fun v M' hu hN hl => hQ _ _ ⟨hu, hN, hl⟩) 7 0 0 [] M3 rfl (by decide) ⟨((h.up u1).up u2).up u3, (h1.up u2).up u3, h2.up u3, h3, (u1.trans u2).trans u3⟩ (by simp) (by rw [List.drop_zero]; rfl)
end
end Go.G
