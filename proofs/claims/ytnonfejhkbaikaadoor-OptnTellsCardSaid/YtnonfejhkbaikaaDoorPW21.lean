/- Layer 21: options told, and read; by the program and by the document. -/
import Derived.Test.YtnonfejhkbaikaaDoorPGH
import Derived.Test.YtnonfejhkbaikaaDoorPW4o
import Derived.Test.YtnonfejhkbaikaaDoorPS5
import Derived.Test.YtnonfejhkbaikaaDoorPAbVec2
import Derived.Test.YtnonfejhkbaikaaDoorPQ21
namespace Go.G
open Go.Ab Go.Proofs Go.RowKit
set_option linter.unusedVariables false
set_option linter.unusedSimpArgs false
set_option maxRecDepth 100000

theorem bool_eq (a b : Bool) (K : Value → Prop) : OP (abin Tryd.prog false .eql Ty.bool (tv a) (tv b)) K = K (tv (a == b)) := by
  have : abin Tryd.prog false .eql Ty.bool (.bool a) (.bool b) = some (.bool (a == b)) := by kernel_rfl
  rw [this]; rfl
theorem bool_ne (a b : Bool) (K : Value → Prop) : OP (abin Tryd.prog false .neq Ty.bool (tv a) (tv b)) K = K (tv (a != b)) := by
  have : abin Tryd.prog false .neq Ty.bool (.bool a) (.bool b) = some (.bool (a != b)) := by kernel_rfl
  rw [this]; rfl
/-! ## rows of texts -/
section
variable {M : Store} {v w : Value} {xs ys : List (List UInt8)}
theorem texts_loop (hx : LV sv Ty.string M v xs) (hy : LV sv Ty.string M w ys) (hlen : xs.length = ys.length) (hb : xs.length ≤ 2 ^ 40) {Q : Value → Store → Prop} (hQ : Q (tv (decide (xs = ys))) M) :
    ∀ (d i : Nat), d + i = xs.length → xs.take i = ys.take i → P_fettleref1_SameTexts_1 v w (iv (i : Int)) M Q := by
  intro d
  induction d with
  | zero =>
    intro i hi ht
    apply T_fettleref1_SameTexts_1
    unfold S_fettleref1_SameTexts_1
    rw [hx.len, OP_some, lss_n, BR_dec, if_neg (by omega)]
    apply T_fettleref1_SameTexts_3
    unfold S_fettleref1_SameTexts_3
    rw [List.take_of_length_le (by omega), List.take_of_length_le (by omega)] at ht
    rw [decide_eq_true ht] at hQ
    exact ⟨rfl, hQ⟩
  | succ d ih =>
    intro i hi ht
    apply T_fettleref1_SameTexts_1
    unfold S_fettleref1_SameTexts_1
    have hil : i < xs.length := by omega
    rw [hx.len, OP_some, lss_n, BR_dec, if_pos hil]
    apply T_fettleref1_SameTexts_2
    unfold S_fettleref1_SameTexts_2
    obtain ⟨p, e1, e2⟩ := hx.at hil .i64
    obtain ⟨p', g1, g2⟩ := hy.at (i := i) (by omega) .i64
    rw [e1, OP_some, e2, OP_some, g1, OP_some, g2, OP_some, sv_ne, BR_dec]
    split
    · rename_i h
      have : ¬ xs = ys := fun e => h (by
        have : xs[i]? = ys[i]? := by rw [e]
        rw [List.getElem?_eq_getElem hil, List.getElem?_eq_getElem (by omega)] at this
        exact Option.some.inj this)
      rw [decide_eq_false this] at hQ
      exact ⟨rfl, hQ⟩
    · rename_i h
      have h : xs[i] = ys[i]'(by omega) := by simpa using h
      rw [add1_n _ (by omega)]
      refine ih (i + 1) (by omega) ?_
      rw [List.take_succ_eq_append_getElem hil, List.take_succ_eq_append_getElem (by omega), ht, h]
theorem SameTexts_ok (hx : LV sv Ty.string M v xs) (hy : LV sv Ty.string M w ys) (hb : xs.length ≤ 2 ^ 40) {Q : Value → Store → Prop} (hQ : Q (tv (decide (xs = ys))) M) : R F.fettleref1_SameTexts #[v, w] M Q := by
  apply T_fettleref1_SameTexts
  unfold S_fettleref1_SameTexts
  rw [hx.len, OP_some, hy.len, OP_some, neq_n, BR_dec]
  split
  · rename_i h
    have : ¬ xs = ys := fun e => h (by rw [e])
    rw [decide_eq_false this] at hQ
    exact ⟨rfl, hQ⟩
  · rename_i h
    exact texts_loop hx hy (by simpa using h) hb hQ xs.length 0 (by omega) (by simp)
end
theorem U_slstr : Tryd.prog.underlying Ty.sl_string = some (.slice Ty.string) := by kernel_rfl
theorem CloneT_ok {M : Store} {v : Value} {l : List (List UInt8)} (h : LV sv Ty.string M v l) (hl : l.length ≤ 2 ^ 24) : R F.slices_Clone_sl_string_string #[v] M fun v' M' => Up M M' ∧ NV sv Ty.string M M' v' l := by
  apply T_slices_Clone_sl_string_string
  obtain ⟨a, c, rfl⟩ := h.slice
  unfold S_slices_Clone_sl_string_string
  rw [abin_nil U_slstr]
  cases a with
  | none =>
    obtain ⟨h1, a, c', h2, h3, h4⟩ := h
    injection h2 with h2 h5 h6
    subst h2; subst h6
    have : l.length = 0 := by
      rcases Nat.eq_zero_or_pos l.length with h | h
      · exact h
      · obtain ⟨b, o, cells, e', own, h7, _⟩ := h4 h; cases h7
    have hl : l = [] := List.length_eq_zero_iff.1 this
    subst hl
    simp only [Option.isNone_none, ev]
    exact ⟨rfl, Ch.refl _ _, Nw.nil _ _ _ _⟩
  | some a =>
    rw [Option.isNone_some, BR_bool, if_neg (by decide), e_lit0]
    refine s_lit (s := 1) rfl fun M1 u1 hN o1 n1 => ?_
    have hn : NV sv Ty.string M M1 (.slice (some ⟨M.n, 0, none⟩) 0 0) ([] : List (List UInt8)) := hN
    refine NV.apps u1 (Nat.le_refl _) u1.n hn (h.up u1) (by simp; omega) fun v' M' hu' hN' _ _ => ?_
    rw [List.nil_append] at hN'
    exact ⟨nts_of hN'.sl, hu', hN'⟩

/-! ## joined -/
theorem textsOf_map : ∀ xs : List (List UInt8), textsOf (xs.map sv) = some (xs.map fun l => (⟨l.toArray⟩ : ByteArray))
  | [] => rfl
  | x :: xs => by
    show (textsOf (xs.map sv)).map (⟨x.toArray⟩ :: ·) = _
    rw [textsOf_map xs]; rfl
theorem Join_ok {M : Store} {v : Value} {xs : List (List UInt8)} (h : LV sv Ty.string M v xs) (hl : xs.length ≤ 2 ^ 30) (hj : (joinL [32] xs).length ≤ 2 ^ 40) {Q : Value → Store → Prop} (hQ : Q (sv (joinL [32] xs)) M) : R F.strings_Join #[v, sv [32]] M Q := by
  refine R_told (g := joinB) (by kernel_rfl) (v := sv (joinL [32] xs)) (M' := M) ?_ hQ
  obtain ⟨h1, a, c, rfl, h3, h4⟩ := h
  show (bif Nat.beq xs.length 0 then some (Value.string ⟨#[]⟩, M) else match (generalizing := false) a with
    | some ⟨b, o, none⟩ => match (rowOf M b o xs.length).bind textsOf with
      | some ys => bif Nat.ble (joinL [32] (ys.map (·.data.toList))).length 140737488355328 && Nat.ble xs.length 140737488355328 then some (.string ⟨(joinL [32] (ys.map (·.data.toList))).toArray⟩, M) else none
      | none => none
    | _ => none) = _
  cases hx : xs with
  | nil => rfl
  | cons x r =>
    have hpos : 0 < xs.length := by rw [hx]; simp
    obtain ⟨b, o, cells, e', own, rfl, h6, h7, h8, h9⟩ := h4 hpos
    rw [← hx]
    have hb : Nat.beq xs.length 0 = false := by rw [hx]; rfl
    rw [Nat.mul_one] at h8 h9
    rw [hb, cond_false]
    simp only
    rw [row_of h6 h8, h9, Option.bind_some, textsOf_map]
    simp only [List.map_map]
    have e : xs.map ((fun b : ByteArray => b.data.toList) ∘ fun l => (⟨l.toArray⟩ : ByteArray)) = xs := by
      conv => rhs; rw [← List.map_id xs]
      apply List.map_congr_left; intro l _; rfl
    rw [e, Nat.ble_eq_true_of_le (show (joinL [32] xs).length ≤ 140737488355328 by omega), Nat.ble_eq_true_of_le (show xs.length ≤ 140737488355328 by omega)]
    rfl

/-! ## options as values -/
def ocs (o : OpT) (a : Option Addr) (c : Nat) : List Value := [tv o.1, tv o.2.1, tv o.2.2.1, .slice a o.2.2.2.length c]
def OV (M : Store) (v : Value) (o : OpT) : Prop := ∃ a c, v = .agg (ocs o a c).toArray ∧ LV sv Ty.string M (.slice a o.2.2.2.length c) o.2.2.2
theorem OV.up {M M' : Store} {v : Value} {o : OpT} (h : OV M v o) (k : Up M M') : OV M' v o := by
  obtain ⟨a, c, rfl, h⟩ := h
  exact ⟨a, c, rfl, h.up k⟩
def zeroO : OpT := (false, false, false, [])
theorem OV.zero (M : Store) : OV M (.agg #[tv false, tv false, tv false, .slice none 0 0]) zeroO := ⟨none, 0, rfl, Sl.nil _ _ _⟩
theorem ocs_box (o : OpT) (a : Option Addr) (c : Nat) : boxv (.agg (ocs o a c).toArray) = some (ocs o a c) := by obtain ⟨x, y, z, l⟩ := o; kernel_rfl
theorem ocs_one (o : OpT) (a : Option Addr) (c : Nat) : (ocs o a c).all (·.oneCell') = true := by obtain ⟨x, y, z, l⟩ := o; kernel_rfl
/-- Options are taken in, in a box. -/
theorem ov_box {M : Store} {v : Value} {o : OpT} (h : OV M v o) {K : Value → Store → Prop} (hK : ∀ a c M1, v = .agg (ocs o a c).toArray → Up M M1 → Ob M1 M.n [tv o.1, tv o.2.1, tv o.2.2.1, .slice a o.2.2.2.length c] Ty.api_Options → LV sv Ty.string M1 (.slice a o.2.2.2.length c) o.2.2.2 → M1.n = M.n + 1 → K (.pointer (some ⟨M.n, 0, none⟩)) M1) :
    OP (boxv v) fun c => LT (.pointer (some ⟨M.n, 0, none⟩)) (M.push (some (.inl (c, Ty.api_Options, true)))) K := by
  obtain ⟨a, c, rfl, h⟩ := h
  rw [ocs_box, OP_some]
  exact s_new fun M1 u1 o1 n1 => hK a c M1 rfl u1 o1 (h.up u1) n1
theorem same_ok {M : Store} {v w : Value} {o o' : OpT} (h : OV M v o) (h' : OV M w o') (hb : o.2.2.2.length ≤ 2 ^ 40) : R F.fettlelaw21_same #[v, w] M fun r M' => Up M M' ∧ r = tv (decide (o = o')) := by
  refine R.cps fun Q hQ => ?_
  apply T_fettlelaw21_same
  unfold S_fettlelaw21_same
  refine ov_box h fun a c M1 _ u1 o1 l1 n1 => ?_
  refine ov_box (h'.up u1) fun a' c' M2 _ u2 o2 l2 n2 => ?_
  have o12 := o1.up u2
  have l12 := l1.up u2
  have u02 := u1.trans u2
  obtain ⟨x, y, z, l⟩ := o
  obtain ⟨x', y', z', l'⟩ := o'
  simp only [fad0, o12.l4, o2.l4]
  have hde : decide ((x, y, z, l) = (x', y', z', l')) = ((x == x') && ((y == y') && ((z == z') && decide (l = l')))) := by
    simp only [Prod.mk.injEq]
    cases x <;> cases x' <;> cases y <;> cases y' <;> cases z <;> cases z' <;> simp
  rw [hde] at hQ
  rw [bool_eq]
  cases h1 : x == x' with
  | false => rw [h1] at hQ; rw [BR_false]; exact ⟨rfl, hQ _ _ ⟨u02, rfl⟩⟩
  | true =>
    rw [h1, Bool.true_and] at hQ
    rw [BR_true, bool_eq]
    cases h2 : y == y' with
    | false => rw [h2] at hQ; rw [BR_false]; exact ⟨rfl, hQ _ _ ⟨u02, rfl⟩⟩
    | true =>
      rw [h2, Bool.true_and] at hQ
      rw [BR_true, bool_eq]
      cases h3 : z == z' with
      | false => rw [h3] at hQ; rw [BR_false]; exact ⟨rfl, hQ _ _ ⟨u02, rfl⟩⟩
      | true =>
        rw [h3, Bool.true_and] at hQ
        rw [BR_true]
        exact SameTexts_ok l12 l2 hb ⟨rfl, hQ _ _ ⟨u02, rfl⟩⟩

/-! ## which names are none -/
theorem cf_loop {M : Store} {v : Value} {xs : List (List UInt8)} (h : LV sv Ty.string M v xs) (hl : xs.length ≤ 2 ^ 40) (hx : ∀ x ∈ xs, x.length ≤ 2 ^ 40) {Q : Value → Store → Prop} (hQ : ∀ z : Int, decide (z ≥ 0) = !xs.all okF → Q (iv z) M) :
    ∀ (d i : Nat), d + i = xs.length → (xs.take i).all okF = true → P_slices_IndexFunc_sl_string_string_1 v (.func (.func F.optn_Print_c1) #[] #[]) (iv (xs.length : Int)) (iv (i : Int)) M Q := by
  intro d
  induction d with
  | zero =>
    intro i hi ha
    apply T_slices_IndexFunc_sl_string_string_1
    unfold S_slices_IndexFunc_sl_string_string_1
    rw [lss_n, BR_dec, if_neg (by omega)]
    apply T_slices_IndexFunc_sl_string_string_2
    unfold S_slices_IndexFunc_sl_string_string_2
    rw [List.take_of_length_le (by omega)] at ha
    exact ⟨rfl, hQ (-1) (by rw [ha]; rfl)⟩
  | succ d ih =>
    intro i hi ha
    have hil : i < xs.length := by omega
    apply T_slices_IndexFunc_sl_string_string_1
    unfold S_slices_IndexFunc_sl_string_string_1
    rw [lss_n, BR_dec, if_pos hil]
    obtain ⟨p, e1, e2⟩ := h.at hil .i64
    rw [e1, OP_some, e2, OP_some]
    show R F.optn_Print_c1 #[sv xs[i]] M _
    apply T_optn_Print_c1
    unfold S_optn_Print_c1
    refine Ok_ok (hx _ (List.getElem_mem hil)) ?_
    rw [e_not]
    refine ⟨rfl, ?_⟩
    show BR (tv (!okF xs[i])) _ _
    rw [BR_bool]
    split
    · rename_i hb
      refine ⟨rfl, hQ _ ?_⟩
      have : xs.all okF = false := by
        rw [List.all_eq_false]
        exact ⟨xs[i], List.getElem_mem hil, by simpa using hb⟩
      rw [this]; simp
    · rename_i hb
      rw [add1_n _ (by omega)]
      refine ih (i + 1) (by omega) ?_
      rw [List.take_succ_eq_append_getElem hil, List.all_append, ha]
      simpa using hb
theorem CF_ok {M : Store} {v : Value} {xs : List (List UInt8)} (h : LV sv Ty.string M v xs) (hl : xs.length ≤ 2 ^ 40) (hx : ∀ x ∈ xs, x.length ≤ 2 ^ 40) {Q : Value → Store → Prop} (hQ : Q (tv (!xs.all okF)) M) : R F.slices_ContainsFunc_sl_string_string #[v, .func (.func F.optn_Print_c1) #[] #[]] M Q := by
  apply T_slices_ContainsFunc_sl_string_string
  unfold S_slices_ContainsFunc_sl_string_string
  apply T_slices_IndexFunc_sl_string_string
  unfold S_slices_IndexFunc_sl_string_string
  rw [h.len, OP_some]
  refine cf_loop h hl hx (fun z hz => ?_) xs.length 0 rfl (by simp)
  refine ⟨rfl, ?_⟩
  show Q (.bool (decide (z ≥ 0))) M
  rw [hz]
  exact hQ

/-! ## told -/
theorem okF_len16 {s : List UInt8} (h : okF s = true) : s.length ≤ 16 := by
  unfold okF at h
  simp only [Bool.and_eq_true, decide_eq_true_eq] at h
  exact h.2.2
theorem joinL_len (m : Nat) : ∀ ws : List (List UInt8), (∀ w ∈ ws, w.length ≤ m) → (joinL [32] ws).length ≤ ws.length * (m + 1)
  | [], _ => by simp [joinL]
  | [x], h => by have := h x (by simp); simp [joinL]; omega
  | x :: y :: r, h => by
    rw [joinL_cons, List.length_append, List.length_cons, List.length_cons, Nat.succ_mul]
    have h1 := h x (by simp)
    have h2 := joinL_len m (y :: r) fun w hw => h w (by simp [hw])
    omega
theorem wordsO_len {o : OpT} (h : oOk o = true) : (wordsO o).length ≤ 12 ∧ ∀ w ∈ wordsO o, w.length ≤ 16 := by
  unfold oOk at h
  rw [Bool.and_eq_true, decide_eq_true_eq] at h
  have hn := List.all_eq_true.1 h.2
  obtain ⟨x, y, z, l⟩ := o
  simp only at h hn
  unfold wordsO
  simp only
  constructor
  · cases x <;> cases y <;> cases z <;> (by_cases hl : l = [] <;> simp [hl] <;> omega)
  · intro w hw
    simp only [List.mem_append] at hw
    rcases hw with hw | hw | hw | hw
    · split at hw
      · have : w = wDry := by simpa using hw
        subst this; decide
      · cases hw
    · split at hw
      · have : w = wFast := by simpa using hw
        subst this; decide
      · cases hw
    · split at hw
      · have : w = wClean := by simpa using hw
        subst this; decide
      · cases hw
    · split at hw
      · cases hw
      · rcases List.mem_cons.1 hw with hw | hw
        · subst hw; decide
        · exact okF_len16 (hn w hw)
theorem bl_sv1 (x : ByteArray) (K : List Value → Prop) : OP (bldL (.string ⟨#[]⟩) 1 1 [(0, .string x)]) K = K [.string x] := by kernel_rfl

end Go.G
