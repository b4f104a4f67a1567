/- Layer 8: things each once, and whether rows are alike, of kind int. -/
import Derived.Test.YtnonfejhkbaikaaPGD
import Derived.Test.YtnonfejhkbaikaaPN0
import Derived.Test.YtnonfejhkbaikaaPKE
import Derived.Test.YtnonfejhkbaikaaPV8
namespace Go.G
open Go.Ab Go.Proofs Go.RowKit
set_option linter.unusedVariables false
set_option linter.unusedSimpArgs false
set_option maxRecDepth 100000

theorem bl_int (x : Int) : bldL (.int .i64 0) 1 1 [(0, iv x)] = some [iv x] := by kernel_rfl

theorem unlike_int_loop {M0 : Store} {x0 : Value} {xs : List Int} (hx : LV iv Ty.int M0 x0 xs) (hl : xs.length ≤ 2 ^ 26) {b : Nat} (hb0 : M0.n ≤ b) {Q : Value → Store → Prop}
    (hQ : ∀ v M', Up M0 M' → NV iv Ty.int M0 M' v (unl xs) → (∀ q, bx v = some q → M0.n ≤ q ∧ q < M'.n) → Q v M') : ∀ (d i : Nat) (M : Store) (v : Value) (acc : List Int), d + i = xs.length → Up M0 M → NV iv Ty.int M0 M v acc →
      Mp iv M b (fun k => if k ∈ acc then some (iv 1) else none) → unlA acc (xs.drop i) = unl xs → acc.length ≤ i → (∀ q, bx v = some q → M0.n ≤ q ∧ q < M.n) → P_grph_unlike_int_1 (.map (some b)) v x0 (iv xs.length) (iv i) M Q := by
  intro d
  induction d with
  | zero =>
    intro i M v acc hi hu hN hm ha _ hbx
    apply T_grph_unlike_int_1
    unfold S_grph_unlike_int_1
    rw [e_lss, BR_dec, if_neg (by omega)]
    apply T_grph_unlike_int_3
    rw [List.drop_of_length_le (by omega)] at ha
    exact ⟨nts_of hN.sl, hQ _ _ hu (ha ▸ hN) hbx⟩
  | succ d ih =>
    intro i M v acc hi hu hN hm ha hal hbx
    apply T_grph_unlike_int_1
    unfold S_grph_unlike_int_1
    rw [e_lss, BR_dec, if_pos (by omega)]
    apply T_grph_unlike_int_2
    unfold S_grph_unlike_int_2
    obtain ⟨p, h1, h2⟩ := (hx.up hu).at (i := i) (by omega) .i64
    rw [List.drop_eq_getElem_cons (by omega)] at ha
    generalize xs[i]'(by omega) = k at *
    rw [h1, OP_some, h2, OP_some, hm.look key_iv, OP_some, tp2_0, OP_some, tp2_1, OP_some]
    have hs : (if k ∈ acc then some (iv 1) else none).isSome = decide (k ∈ acc) := by by_cases h : k ∈ acc <;> simp [h]
    rw [hs, e_not, BR_bool]
    simp only [unlA] at ha
    split
    · rename_i hk
      have hk' : k ∉ acc := by simpa using hk
      rw [if_neg hk'] at ha
      obtain ⟨M1, e1, hm1, hc1, hk1⟩ := hm.put key_iv k (one_iv 1)
      rw [e1, OP_some, bl_int, OP_some, LT_eq]
      have hu1 : Up M0 M1 := hu.ch hc1 (by simpa using hb0)
      refine NV.app1 hu1 (Nat.le_refl _) hu1.n (Nw.keepI hN hk1) k rfl (by omega) fun v' M' hu' hN' hc' hn' => ?_
      obtain ⟨b', hb1, hb2, hb3⟩ := hn'
      rw [e_add, w64 (by omega) (by omega)]
      refine ih (i + 1) M' v' (acc ++ [k]) (by omega) hu' hN' ?_ ha (by simp; omega) fun q hq => by rw [hb1] at hq; injection hq with hq; have := hu1.n; omega
      have := hm1.app (Nw.keepI hN hk1) hc'
      refine cast ?_ this
      congr 1
      funext q
      by_cases hq : q = k <;> simp [hq]
    · rename_i hk
      have hk' : k ∈ acc := by simpa using hk
      rw [if_pos hk'] at ha
      rw [e_add, w64 (by omega) (by omega)]
      exact ih (i + 1) M v acc (by omega) hu hN hm ha (by omega) hbx

theorem unlike_int_ok' {M : Store} {x0 : Value} {xs : List Int} (hx : LV iv Ty.int M x0 xs) (hl : xs.length ≤ 2 ^ 26) :
    R F.grph_unlike_int #[x0] M fun v M' => Up M M' ∧ NV iv Ty.int M M' v (unl xs) ∧ ∀ q, bx v = some q → M.n ≤ q ∧ q < M'.n := by
  apply T_grph_unlike_int
  unfold S_grph_unlike_int
  rw [LT_eq, hx.len, OP_some]
  exact unlike_int_loop hx hl (Nat.le_refl _) (fun v M' h1 h2 h3 => ⟨h1, h2, h3⟩) xs.length 0 _ _ [] (by omega) (Up.push _ _) NV.nil (by simpa using Mp.new M) rfl (Nat.le_refl _) fun q hq => by cases hq
theorem unlike_int_ok {M : Store} {x0 : Value} {xs : List Int} (hx : LV iv Ty.int M x0 xs) (hl : xs.length ≤ 2 ^ 26) :
    R F.grph_unlike_int #[x0] M fun v M' => Up M M' ∧ NV iv Ty.int M M' v (unl xs) := (unlike_int_ok' hx hl).mono fun v M' ⟨h1, h2, _⟩ => ⟨h1, h2⟩

theorem SameInts_loop {M : Store} {x y : Value} {xs ys : List Int} (hx : LV iv Ty.int M x xs) (hy : LV iv Ty.int M y ys) (hl : xs.length = ys.length) (hb : xs.length ≤ 2 ^ 40) {Q : Value → Store → Prop} (hQ : Q (tv (decide (xs = ys))) M) :
    ∀ (d i : Nat), d + i = xs.length → xs.take i = ys.take i → P_fettleref1_SameInts_1 x y (iv i) M Q := by
  intro d
  induction d with
  | zero =>
    intro i hi he
    apply T_fettleref1_SameInts_1
    unfold S_fettleref1_SameInts_1
    rw [hx.len, OP_some, e_lss, BR_dec, if_neg (by omega)]
    apply T_fettleref1_SameInts_3
    rw [List.take_of_length_le (by omega), List.take_of_length_le (by omega)] at he
    rw [decide_eq_true he] at hQ
    exact ⟨rfl, hQ⟩
  | succ d ih =>
    intro i hi he
    apply T_fettleref1_SameInts_1
    unfold S_fettleref1_SameInts_1
    rw [hx.len, OP_some, e_lss, BR_dec, if_pos (by omega)]
    apply T_fettleref1_SameInts_2
    unfold S_fettleref1_SameInts_2
    obtain ⟨p, h1, h2⟩ := hx.at (i := i) (by omega) .i64
    obtain ⟨q, h3, h4⟩ := hy.at (i := i) (by omega) .i64
    rw [h1, OP_some, h2, OP_some, h3, OP_some, h4, OP_some, e_neq, BR_dec]
    split
    · rename_i hne
      have : ¬ xs = ys := fun e => hne (by subst e; rfl)
      rw [decide_eq_false this] at hQ
      exact ⟨rfl, hQ⟩
    · rename_i heq
      have heq : xs[i]'(by omega) = ys[i]'(by omega) := by simpa using heq
      rw [e_add, w64 (by omega) (by omega)]
      exact ih (i + 1) (by omega) (by rw [List.take_succ_eq_append_getElem (by omega), List.take_succ_eq_append_getElem (by omega), he, heq])
theorem SameInts_ok {M : Store} {x y : Value} {xs ys : List Int} (hx : LV iv Ty.int M x xs) (hy : LV iv Ty.int M y ys) (hb : xs.length ≤ 2 ^ 40) :
    R F.fettleref1_SameInts #[x, y] M fun v M' => M' = M ∧ v = tv (decide (xs = ys)) := by
  apply T_fettleref1_SameInts
  unfold S_fettleref1_SameInts
  rw [hx.len, OP_some, hy.len, OP_some, e_neq, BR_dec]
  split
  · rename_i h
    have : ¬ xs = ys := fun e => h (by subst e; rfl)
    rw [decide_eq_false this]
    exact ⟨rfl, rfl, rfl⟩
  · rename_i h
    exact SameInts_loop hx hy (by omega) hb ⟨rfl, rfl⟩ xs.length 0 rfl rfl

end Go.G
