/- Layer 4, the program and the document's own answer: names, decimals, temps. -/
import Derived.Test.YtjchjhkhopcalaaGreatDoorPGE
import Derived.Test.YtjchjhkhopcalaaGreatDoorPGF
import Derived.Test.YtjchjhkhopcalaaGreatDoorPS5
import Derived.Test.YtjchjhkhopcalaaGreatDoorPQ4
import Derived.Test.YtjchjhkhopcalaaGreatDoorPXS
namespace Go.G
open Go.Ab Go.Proofs Go.RowKit
set_option linter.unusedVariables false
set_option linter.unusedSimpArgs false
set_option maxRecDepth 100000
structure Tb (M : Store) : Prop where
 pow : iG (M.get 2) = true
 e0 : eg (M.get 0) = true
 e1 : eg (M.get 1) = true
theorem n0 {M : Store} {i : Nat} (h : iG (M.get i) = true) : i < M.n := by
 cases hg : M.get i with
 | none => rw [hg] at h; cases h
 | some x => exact M.lt_of_get hg
theorem iF {M : Store} {i : Nat} (h : eg (M.get i) = true) : i < M.n := by
 cases hg : M.get i with
 | none => rw [hg] at h; cases h
 | some x => exact M.lt_of_get hg
theorem Tb.up {M M' : Store} (h : Tb M) (k : Up M M') : Tb M' :=
 ⟨by rw [Ch.get k 2 (n0 h.pow) (by simp)]; exact h.pow, by rw [Ch.get k 0 (iF h.e0) (by simp)]; exact h.e0, by rw [Ch.get k 1 (iF h.e1) (by simp)]; exact h.e1⟩
theorem uR (c : UInt8) (T F : Prop) : (OP (ab .eql (bv c) (.int .u8 46)) fun t17 => BR t17 (BR t17 T F) (OP (ab .eql (bv c) (.int .u8 45)) fun t19 => BR t19 (BR t19 T F) (OP (ab .eql (bv c) (.int .u8 95)) fun t21 => BR t21 T F))) =
    if (c == 46 || (c == 45 || c == 95)) = true then T else F := by
 rw [jp (d := 46) (n := 46) rfl, ag, ag]
 by_cases h1 : c = 46
 ·rw [if_pos h1, if_pos h1, if_pos (by simp [h1])]
 ·rw [if_neg h1, jp (d := 45) (n := 45) rfl, ag, ag]
  by_cases h2 : c = 45
  ·rw [if_pos h2, if_pos h2, if_pos (by simp [h2])]
  ·rw [if_neg h2, jp (d := 95) (n := 95) rfl, ag]
   by_cases h3 : c = 95 <;> simp [h1, h2, h3]
theorem ub (c d e : UInt8) (n m : Int) (hd : (d.toNat : Int) = n) (he : (e.toNat : Int) = m) (T F X : Prop) : (OP (ab .geq (bv c) (.int .u8 n)) fun t11 => BR t11 (OP (ab .leq (bv c) (.int .u8 m)) fun t14 => BR t14 (BR t14 T F) X) X) =
    if (decide (d ≤ c) && decide (c ≤ e)) = true then T else X := by
 rw [tM hd, ag]
 by_cases h1 : d ≤ c
 ·rw [if_pos h1, tO he, ag, ag]
  by_cases h2 : c ≤ e <;> simp [h1, h2]
 ·rw [if_neg h1]; simp [h1]
theorem uc (c : UInt8) (T F : Prop) : (if (decide (97 ≤ c) && decide (c ≤ 122)) = true then T else if (decide (48 ≤ c) && decide (c ≤ 57)) = true then T else if (c == 46 || (c == 45 || c == 95)) = true then T else F) = if f6 c = true then T else F := by
 unfold f6
 cases (decide (97 ≤ c) && decide (c ≤ 122)) <;> cases (decide (48 ≤ c) && decide (c ≤ 57)) <;> cases (c == 46 || (c == 45 || c == 95)) <;> rfl
theorem qV {M : Store} {c : UInt8} {Q : Value → Store → Prop} (hQ : Q (tv (f6 c)) M) : R F.R #[bv c] M Q := by
 apply mU
 unfold iM
 rw [uR, ub c 48 57 48 57 rfl rfl, ub c 97 122 97 122 rfl rfl, uc]
 split
 ·rename_i h; rw [h] at hQ; exact ⟨rfl, hQ⟩
 ·rename_i h
  have h : f6 c = false := by simpa using h
  rw [h] at hQ; exact ⟨rfl, hQ⟩
theorem tl {s : List UInt8} {i : Nat} (h : i < s.length) (hb : f6 s[i] = false) : okF s = false := by
 unfold okF
 have : s.all f6 = false := by rw [List.all_eq_false]; exact ⟨s[i], List.getElem_mem h, by rw [hb]; decide⟩
 rw [this, Bool.false_and]
theorem tm {s : List UInt8} (h : ∀ j (hj : j < s.length), f6 s[j] = true) : okF s = (decide (1 ≤ s.length) && decide (s.length ≤ 16)) := by
 unfold okF
 have : s.all f6 = true := List.all_eq_true.2 fun c hc => by
  obtain ⟨j, hj, rfl⟩ := List.getElem_of_mem hc
  exact h j hj
 rw [this, Bool.true_and]
theorem uj {s : List UInt8} {M : Store} {Q : Value → Store → Prop} (h : ∀ j (hj : j < s.length), f6 s[j] = true) (hQ : Q (tv (okF s)) M) :
    OP (bG (sv s)) fun t16 => OP (ab .geq t16 (.int .i64 1)) fun t17 => BR t17 (OP (bG (sv s)) fun t20 => OP (ab .leq t20 (.int .i64 16)) fun t21 => NTs [t21] ∧ Q t21 M) (NTs [(.bool false)] ∧ Q (.bool false) M) := by
 rw [tm h] at hQ
 rw [aY, uJ 1 1 rfl, ag]
 split
 ·rename_i h1
  rw [aY, uK 16 16 rfl]
  rw [decide_eq_true h1, Bool.true_and] at hQ
  exact ⟨rfl, hQ⟩
 ·rename_i h1
  rw [decide_eq_false h1, Bool.false_and] at hQ
  exact ⟨rfl, hQ⟩
theorem sR {s : List UInt8} {M : Store} {Q : Value → Store → Prop} (hs : s.length ≤ 2 ^ 40) (hQ : Q (tv (okF s)) M) : ∀ (d i : Nat), d + i = s.length → (∀ j (hj : j < i) (hl : j < s.length), f6 s[j] = true) → cV (sv s) (iv (s.length : Int)) (iv (i : Int)) M Q := by
 intro d
 induction d with
 | zero =>
  intro i hi h
  apply jZ
  unfold gN
  rw [bm, ag, if_neg (by omega)]
  apply oA
  unfold jV
  exact uj (fun j hj => h j (by omega) hj) hQ
 | succ d ih =>
  intro i hi h
  apply jZ
  unfold gN
  rw [bm, ag, if_pos (by omega), jI s i (by omega)]
  refine qV ?_
  rw [bE, bl]
  split
  ·rename_i hb
   rw [tl (i := i) (by omega) (by simpa using hb)] at hQ
   exact ⟨rfl, hQ⟩
  ·rename_i hb
   rw [aP _ (by omega)]
   refine ih (i + 1) (by omega) fun j hj hl => ?_
   by_cases e : j = i
   ·subst e; simpa using hb
   ·exact h j (by omega) hl
theorem pn {s : List UInt8} {M : Store} {Q : Value → Store → Prop} (hs : s.length ≤ 2 ^ 40) (hQ : Q (tv (okF s)) M) : R F.V #[sv s] M Q := by
 apply qy
 unfold ml
 rw [aY]
 exact sR hs hQ s.length 0 rfl fun j hj => by omega
theorem ou {M : Store} {l : List UInt8} {c : UInt8} {Q : Value → Store → Prop} (hQ : Q (iv (Lib.indexByte l c)) M) : R F.i #[sv l, sv [c]] M Q := by
 apply cC
 unfold bo
 rw [aY, show (([c].length : Nat) : Int) = 1 from rfl, dG, ag, if_neg (by decide), fE, ag]
 split
 ·rename_i h
  subst h
  have : Lib.indexByte [c] c = 0 := by simp [Lib.indexByte]
  rw [this] at hQ
  exact ⟨rfl, hQ⟩
 ·rw [dG, ag, if_pos rfl, k8]
  exact qv ⟨rfl, hQ⟩
theorem rF {s : List UInt8} (h : ∀ c ∈ s, c ≠ 47) : eG s = okF s := by
 have : s.dropWhile fD = [] := by
  have aux : ∀ t : List UInt8, (∀ c ∈ t, c ≠ 47) → t.dropWhile fD = [] := by
   intro t
   induction t with
   | nil => intro _; rfl
   | cons a t ih => intro ht; rw [List.dropWhile_cons, if_pos (by simpa [fD] using ht a (by simp)), ih fun c hc => ht c (by simp [hc])]
  exact aux s h
 unfold eG; rw [this]
theorem qQ {x r : List UInt8} (h : ∀ c ∈ x, c ≠ 47) : eG (x ++ 47 :: r) = (okF x && okF r) := by
 have aux : ∀ t : List UInt8, (∀ c ∈ t, c ≠ 47) → (t ++ 47 :: r).dropWhile fD = 47 :: r ∧ (t ++ 47 :: r).takeWhile fD = t := by
  intro t
  induction t with
  | nil => intro _; exact ⟨rfl, rfl⟩
  | cons a t ih =>
   intro ht
   obtain ⟨h1, h2⟩ := ih fun c hc => ht c (by simp [hc])
   have ha : fD a = true := by simpa [fD] using ht a (by simp)
   constructor
   ·rw [List.cons_append, List.dropWhile_cons, if_pos ha, h1]
   ·rw [List.cons_append, List.takeWhile_cons, if_pos ha, h2]
 obtain ⟨h1, h2⟩ := aux x h
 unfold eG; rw [h1, h2]
theorem oV {s : List UInt8} {M : Store} {Q : Value → Store → Prop} (hs : s.length ≤ 2 ^ 40) (hQ : Q (tv (eG s)) M) : R F.Q #[sv s] M Q := by
 apply ov
 unfold jS
 apply mY
 unfold iQ
 apply fo
 unfold cT
 refine ou (c := 47) ?_
 rcases oh 47 s with hno | ⟨x, r, rfl, hx⟩
 ·rw [rH hno, iA, ag, if_neg (by decide)]
  refine ⟨rfl, ?_⟩
  simp only [tp3]
  refine ⟨rfl, ?_⟩
  rw [rF hno] at hQ
  refine pn hs ?_
  rw [bl]
  split
  ·rename_i h; rw [h] at hQ; exact ⟨rfl, hQ⟩
  ·rename_i h
   have h : okF s = false := by simpa using h
   rw [h] at hQ; exact ⟨rfl, hQ⟩
 ·rw [qU x r 47 hx, iA, ag, if_pos (by omega)]
  rw [List.length_append, List.length_cons] at hs
  rw [lC (by simp), List.take_left, aY, show (([47] : List UInt8).length : Int) = ((1 : Nat) : Int) from rfl, gl _ _ (by omega), fN (by simp)]
  have hd : (x ++ 47 :: r).drop (x.length + 1) = r := by rw [← List.drop_drop, List.drop_left]; rfl
  rw [hd]
  refine ⟨rfl, ?_⟩
  simp only [tp3]
  refine ⟨rfl, ?_⟩
  rw [qQ hx] at hQ
  refine pn (by omega) ?_
  rw [bl]
  split
  ·rename_i h
   rw [h, Bool.true_and] at hQ
   rw [bE]
   show BR3 (.bool false) _ _ _
   rw [sf]
   exact pn (by omega) ⟨rfl, hQ⟩
  ·rename_i h
   have h : okF x = false := by simpa using h
   rw [h, Bool.false_and] at hQ; exact ⟨rfl, hQ⟩
theorem sQ {M : Store} (hT : Tb M) {n : Nat} (hn : n < 2 ^ 62) {Q : Value → Store → Prop} (hQ : Q (sv (Lib.decDigits n)) M) : R F.p #[iv (n : Int)] M Q := by
 refine gV (g := nb) (v := sv (Lib.decDigits n)) (M' := M) (by kernel_rfl) ?_ hQ
 have hd : dec (n : Int) = Lib.decDigits n := by
  rw [nR (by omega) (by omega)]
  unfold Lib.itoa
  rw [if_neg (by omega)]; rfl
 show (bif decide (0 ≤ (n : Int)) && decide ((n : Int) < 100) then some (Value.string ⟨(dec (n : Int)).toArray⟩, M)
  else bif decide (-9223372036854775808 ≤ (n : Int)) && decide ((n : Int) ≤ 9223372036854775807) && iG (M.get 2) then some (.string ⟨(dec (n : Int)).toArray⟩, M) else none) = _
 rw [hd, hT.pow, decide_eq_true (show -9223372036854775808 ≤ (n : Int) by omega), decide_eq_true (show (n : Int) ≤ 9223372036854775807 by omega)]
 cases decide (0 ≤ (n : Int)) && decide ((n : Int) < 100) <;> rfl
theorem jJ (n : Int) (top : Nat) : (if (top : Int) < (if (0 : Int) > n then (0 : Int) else n) then (top : Int) else (if (0 : Int) > n then (0 : Int) else n)) = ((aX n top : Nat) : Int) := by
 unfold aX; omega
theorem lY {M : Store} (hT : Tb M) (n : Int) (top : Nat) (ht : top ≤ 2 ^ 30) {Q : Value → Store → Prop} (hQ : Q (sv (Lib.decDigits (aX n top))) M) : R F.v #[iv n, iv (top : Int)] M Q := by
 apply lE
 unfold gW
 rw [lc, iB, jJ]
 have := cJ n top
 exact sQ hT (by omega) ⟨rfl, hQ⟩
theorem eD {n : Nat} (h : n ≤ 99999) : (Lib.decDigits n).length ≤ 5 := nP 4 n (by omega)
theorem sU {M : Store} (hT : Tb M) (a b c : Int) {Q : Value → Store → Prop} (hQ : Q (sv (cZ a b c)) M) : R F.T #[iv a, iv b, iv c] M Q := by
 apply oB
 unfold jW
 have h1 := cJ a 999
 have h2 := cJ b 99999
 have h3 := cJ c 99999
 have l1 := eD (show aX a 999 ≤ 99999 by omega)
 have l2 := eD h2
 have l3 := eD h3
 refine lY hT a 999 (by decide) ?_
 show OP (al .add (sv [116, 109, 112, 47]) (sv _)) _
 rw [bT _ _ (by simp; omega)]
 show OP (al .add (sv _) (sv [46])) _
 rw [bT _ _ (by simp; omega)]
 refine lY hT b 99999 (by decide) ?_
 rw [bT _ _ (by simp; omega)]
 show OP (al .add (sv _) (sv [46])) _
 rw [bT _ _ (by simp; omega)]
 refine lY hT c 99999 (by decide) ?_
 rw [bT _ _ (by simp; omega)]
 have e : ([116, 109, 112, 47] ++ Lib.decDigits (aX a 999) ++ [46] ++ Lib.decDigits (aX b 99999) ++ [46] ++ Lib.decDigits (aX c 99999)) = cZ a b c := by
  unfold cZ lS bt; simp
 rw [e]
 exact ⟨rfl, hQ⟩
theorem rc {M0 : Store} {Q : Value → Store → Prop} (full : List UInt8) (hfl : full.length ≤ 100) (hQ : ∀ M, Up M0 M → Q (sv full) M) : ∀ (n : Nat) (x : List UInt8) (M : Store), n < 2 ^ 62 → Up M0 M → (if n = 0 ∧ x ≠ [] then x else Lib.decDigits n ++ x) = full → dn (iv (n : Int)) (sv x) M Q := by
 intro n
 induction n using Nat.strongRecOn with
 | _ n ih =>
  intro x M hn hu hx
  have two : (n = 0 → x = []) → d4 (iv (n : Int)) (sv x) M Q := by
   intro h0
   have hx : Lib.decDigits n ++ x = full := by
    rw [← hx, if_neg]
    rintro ⟨h1, h2⟩; exact h2 (h0 h1)
   apply pp
   unfold kK
   have er : ab .rem (iv (n : Int)) (.int .i64 10) = some (iv ((n % 10 : Nat) : Int)) := uG n 10 (by decide)
   rw [er, ae]
   show OP (ab .add (iv ((48 : Nat) : Int)) (iv ((n % 10 : Nat) : Int))) _
   rw [gl _ _ (by omega)]
   have ec : ∀ K : Value → Prop, OP (cvI .u8 (iv ((48 + n % 10 : Nat) : Int))) K = K (bv (UInt8.ofNat (48 + n % 10))) := fun K => by
    show OP (cvI .u8 (.int .i64 _)) K = _
    rw [pT, tB]; rfl
   rw [ec, sj]
   refine sJ (s := 1) rfl fun M1 u1 hl o1 n1 => ?_
   have hby : B M1 (.slice (some ⟨M.n, 0, none⟩) 1 1) [UInt8.ofNat (48 + n % 10)] := hl.sl
   rw [s7 hby, ae]
   have hxl : x.length ≤ 100 := by rw [← hx, List.length_append] at hfl; omega
   show OP (al .add (sv [UInt8.ofNat (48 + n % 10)]) (sv x)) _
   rw [bT _ _ (by simp; omega)]
   have eq : ab .quo (iv (n : Int)) (.int .i64 10) = some (iv ((n / 10 : Nat) : Int)) := by
    have h : ab .quo (.int .i64 (n : Int)) (.int .i64 10) = if (10 : Int) = 0 then none else some (.int .i64 (IntKind.wrap .i64 ((n : Int).tdiv 10))) := rfl
    show ab .quo (.int .i64 (n : Int)) (.int .i64 10) = _
    rw [h, if_neg (by decide), Int.tdiv_eq_ediv_of_nonneg (by omega), w64 (by omega) (by omega)]; rfl
   rw [eq, ae]
   by_cases hs : n < 10
   ·rw [cQ hs] at hx
    have e1 : n / 10 = 0 := by omega
    have e2 : n % 10 = n := by omega
    rw [e1, e2]
    have hne : [UInt8.ofNat (48 + n)] ++ x ≠ [] := by simp
    apply kN
    unfold ii
    show OP (ab .gtr (iv ((0 : Nat) : Int)) (.int .i64 0)) _
    rw [sC 0 0 rfl, ag, if_neg (by omega)]
    show OP (al .eql (sv _) (sv [])) _
    rw [fE, ag, if_neg hne]
    apply kO
    unfold ij
    rw [hx]
    exact ⟨rfl, hQ _ (hu.trans u1)⟩
   ·refine ih (n / 10) (by omega) _ M1 (by omega) (hu.trans u1) ?_
    rw [if_neg (by omega), ← hx, f2 hs, List.append_assoc]
  apply kN
  unfold ii
  rw [sC 0 0 rfl, ag]
  split
  ·rename_i h; exact two fun h0 => by omega
  ·rename_i h
   show OP (al .eql (sv _) (sv [])) _
   rw [fE, ag]
   split
   ·rename_i h2; exact two fun _ => h2
   ·rename_i h2
    apply kO
    unfold ij
    rw [if_pos ⟨by omega, h2⟩] at hx
    rw [hx]
    exact ⟨rfl, hQ _ hu⟩
theorem nj {M : Store} {n : Nat} (hn : n < 2 ^ 62) (hl : (Lib.decDigits n).length ≤ 100) : R F.F #[iv (n : Int)] M fun v M' => Up M M' ∧ v = sv (Lib.decDigits n) := by
 refine R.cps fun Q hQ => ?_
 apply ri
 unfold nl
 exact rc (M0 := M) (Lib.decDigits n) hl (fun M' hu => hQ _ _ ⟨hu, rfl⟩) n [] M hn (Ch.refl _ _) (by simp)
theorem rW {M : Store} (a b c : Int) : R F.c1 #[iv a, iv b, iv c] M fun v M' => Up M M' ∧ v = sv (cZ a b c) := by
 refine R.cps fun Q hQ => ?_
 apply qB
 unfold mq
 have h1 := cJ a 999
 have h2 := cJ b 99999
 have h3 := cJ c 99999
 have l1 := eD (show aX a 999 ≤ 99999 by omega)
 have l2 := eD h2
 have l3 := eD h3
 rw [lc, iB]
 show R F.F #[iv (if ((999 : Nat) : Int) < _ then ((999 : Nat) : Int) else _)] M _
 rw [jJ]
 refine (nj (by omega) (by omega)).mono fun t M1 ⟨u1, ht⟩ => ?_
 subst ht
 show OP (al .add (sv [116, 109, 112, 47]) (sv _)) _
 rw [bT _ _ (by simp; omega)]
 show OP (al .add (sv _) (sv [46])) _
 rw [bT _ _ (by simp; omega), lc, iB]
 show R F.F #[iv (if ((99999 : Nat) : Int) < _ then ((99999 : Nat) : Int) else _)] M1 _
 rw [jJ]
 refine (nj (by omega) (by omega)).mono fun t M2 ⟨u2, ht⟩ => ?_
 subst ht
 rw [bT _ _ (by simp; omega)]
 show OP (al .add (sv _) (sv [46])) _
 rw [bT _ _ (by simp; omega), lc, iB]
 show R F.F #[iv (if ((99999 : Nat) : Int) < _ then ((99999 : Nat) : Int) else _)] M2 _
 rw [jJ]
 refine (nj (by omega) (by omega)).mono fun t M3 ⟨u3, ht⟩ => ?_
 subst ht
 rw [bT _ _ (by simp; omega)]
 have e : ([116, 109, 112, 47] ++ Lib.decDigits (aX a 999) ++ [46] ++ Lib.decDigits (aX b 99999) ++ [46] ++ Lib.decDigits (aX c 99999)) = cZ a b c := by
  unfold cZ lS bt; simp
 rw [e]
 exact ⟨rfl, hQ _ _ ⟨(u1.trans u2).trans u3, rfl⟩⟩
end Go.G
