/- Layer 8: the place of the first that fits; which place comes next. -/
import Derived.Test.YtnonfejhkbaikaaPE8i
namespace Go.G
open Go.Ab Go.Proofs Go.RowKit
set_option linter.unusedVariables false
set_option linter.unusedSimpArgs false
set_option maxRecDepth 100000

/-- A place, or -1. -/
def plc (o : Option Nat) : Int := match o with
  | some i => i
  | none => -1

theorem IndexFunc_int_loop {M0 : Store} {x0 g : Value} {xs : List Int} (hx : LV iv Ty.int M0 x0 xs) (hb : xs.length ≤ 2 ^ 40) (p : Int → Bool)
    (hg : ∀ M', Up M0 M' → ∀ x ∈ xs, KC g [iv x] M' fun v M'' => Up M' M'' ∧ v = tv (p x)) {Q : Value → Store → Prop} (hQ : ∀ M', Up M0 M' → Q (iv (plc (xs.findIdx? p))) M') :
    ∀ (d i : Nat) (M : Store), d + i = xs.length → Up M0 M → (∀ j, j < i → ∀ h : j < xs.length, p xs[j] = false) → P_slices_IndexFunc_sl_int_int_1 x0 g (iv xs.length) (iv i) M Q := by
  intro d
  induction d with
  | zero =>
    intro i M hi hu hf
    apply T_slices_IndexFunc_sl_int_int_1
    unfold S_slices_IndexFunc_sl_int_int_1
    rw [e_lss, BR_dec, if_neg (by omega)]
    apply T_slices_IndexFunc_sl_int_int_2
    have : xs.findIdx? p = none := by
      rw [List.findIdx?_eq_none_iff]
      intro x hm
      obtain ⟨j, hj, rfl⟩ := List.getElem_of_mem hm
      exact hf j (by omega) hj
    have hQ' := hQ M hu
    rw [this] at hQ'
    exact ⟨rfl, hQ'⟩
  | succ d ih =>
    intro i M hi hu hf
    apply T_slices_IndexFunc_sl_int_int_1
    unfold S_slices_IndexFunc_sl_int_int_1
    obtain ⟨q, h1, h2⟩ := (hx.up hu).at (i := i) (by omega) .i64
    rw [e_lss, BR_dec, if_pos (by omega), h1, OP_some, h2, OP_some]
    refine kcall_mono (hg M hu _ (List.getElem_mem (by omega))) fun v M1 ⟨hu1, hv⟩ => ?_
    subst hv
    rw [BR_bool]
    split
    · rename_i hp
      have : xs.findIdx? p = some i := by
        rw [List.findIdx?_eq_some_iff_getElem]
        exact ⟨by omega, hp, fun j hj => by simpa using hf j hj (by omega)⟩
      have hQ' := hQ M1 (hu.trans hu1)
      rw [this] at hQ'
      exact ⟨rfl, hQ'⟩
    · rename_i hp
      rw [e_add, w64 (by omega) (by omega)]
      refine ih (i + 1) M1 (by omega) (hu.trans hu1) fun j hj h => ?_
      by_cases e : j = i
      · subst e; simpa using hp
      · exact hf j (by omega) h

theorem IndexFunc_int_ok {M : Store} {x0 g : Value} {xs : List Int} (hx : LV iv Ty.int M x0 xs) (hb : xs.length ≤ 2 ^ 40) (p : Int → Bool)
    (hg : ∀ M', Up M M' → ∀ x ∈ xs, KC g [iv x] M' fun v M'' => Up M' M'' ∧ v = tv (p x)) :
    R F.slices_IndexFunc_sl_int_int #[x0, g] M fun v M' => Up M M' ∧ v = iv (plc (xs.findIdx? p)) := by
  apply T_slices_IndexFunc_sl_int_int
  unfold S_slices_IndexFunc_sl_int_int
  rw [hx.len, OP_some]
  exact IndexFunc_int_loop hx hb p hg (fun M' h => ⟨h, rfl⟩) xs.length 0 M rfl (Ch.refl _ _) fun j h => by omega

theorem ContainsFunc_int_ok {M : Store} {x0 g : Value} {xs : List Int} (hx : LV iv Ty.int M x0 xs) (hb : xs.length ≤ 2 ^ 40) (p : Int → Bool)
    (hg : ∀ M', Up M M' → ∀ x ∈ xs, KC g [iv x] M' fun v M'' => Up M' M'' ∧ v = tv (p x)) :
    R F.slices_ContainsFunc_sl_int_int #[x0, g] M fun v M' => Up M M' ∧ v = tv (xs.any p) := by
  apply T_slices_ContainsFunc_sl_int_int
  unfold S_slices_ContainsFunc_sl_int_int
  refine (IndexFunc_int_ok hx hb p hg).mono fun v M1 ⟨hu, hv⟩ => ?_
  subst hv
  rw [e_geq]
  refine ⟨rfl, hu, ?_⟩
  congr 1
  cases h : xs.findIdx? p with
  | none =>
    have : xs.any p = false := by
      rw [List.any_eq_false]
      rw [List.findIdx?_eq_none_iff] at h
      intro x hx; simpa using h x hx
    rw [this]; simp [plc]
  | some i =>
    have : xs.any p = true := by
      rw [List.findIdx?_eq_some_iff_getElem] at h
      obtain ⟨h1, h2, _⟩ := h
      rw [List.any_eq_true]
      exact ⟨_, List.getElem_mem h1, h2⟩
    rw [this]; simp [plc]

abbrev LI (M : Store) (v : Value) (nss : List (List Int)) : Prop := Ls (LV iv Ty.int) Ty.sl_int M v nss
theorem LV.up' {α : Type} {En : α → Value} {e : TypeId} (M M' : Store) (v : Value) (x : List α) (h : LV En e M v x) (k : Up M M') : LV En e M' v x := Sl.up h k

theorem next_c1_ok {M : Store} {y : Value} {ds : List Bool} {b : Nat} (hb : Ob M b [y] Ty.sl_bool) (hy : LV tv Ty.bool M y ds) {j : Int} (h0 : 0 ≤ j) (h1 : j < ds.length) :
    R F.grph_next_c1 #[iv j, .pointer (some ⟨b, 0, none⟩)] M fun v M' => M' = M ∧ v = tv (!ds.getD j.toNat false) := by
  apply T_grph_next_c1
  unfold S_grph_next_c1
  rw [hb.ld (v := y) rfl, OP_some]
  obtain ⟨q, g1, g2⟩ := hy.at (i := j.toNat) (by omega) .i64
  have e : ((j.toNat : Nat) : Int) = j := by omega
  rw [e] at g1
  rw [g1, OP_some, g2, OP_some, e_not]
  refine ⟨rfl, rfl, ?_⟩
  rw [List.getD_eq_getElem?_getD, List.getElem?_eq_getElem (by omega)]; rfl

theorem next_loop {M0 : Store} {x y : Value} {nss : List (List Int)} {ds : List Bool} (hx : LI M0 x nss) (hy : LV tv Ty.bool M0 y ds) (hl : nss.length = ds.length) (hb : nss.length ≤ 2 ^ 26)
    (hr : ∀ ns ∈ nss, ns.length ≤ 2 ^ 40 ∧ ∀ j ∈ ns, 0 ≤ j ∧ j < ds.length) {b : Nat} {Q : Value → Store → Prop} (hQ : ∀ M', Up M0 M' → Q (iv (plc (nxtI nss ds))) M') :
    ∀ (d i : Nat) (M : Store), d + i = nss.length → Up M0 M → Ob M b [y] Ty.sl_bool → (∀ j, j < i → okI nss ds j = false) → P_grph_next_1 (.pointer (some ⟨b, 0, none⟩)) x (iv nss.length) (iv i) M Q := by
  intro d
  induction d with
  | zero =>
    intro i M hi hu hob hf
    apply T_grph_next_1
    unfold S_grph_next_1
    rw [e_lss, BR_dec, if_neg (by omega)]
    apply T_grph_next_3
    have : nxtI nss ds = none := by
      unfold nxtI
      rw [List.find?_eq_none]
      intro j hj
      rw [List.mem_range] at hj
      simpa using hf j (by omega)
    have hQ' := hQ M hu
    rw [this] at hQ'
    exact ⟨rfl, hQ'⟩
  | succ d ih =>
    intro i M hi hu hob hf
    apply T_grph_next_1
    unfold S_grph_next_1
    rw [e_lss, BR_dec, if_pos (by omega)]
    apply T_grph_next_2
    unfold S_grph_next_2
    obtain ⟨p, w, h1, h2, h3⟩ := (hx.up LV.up' hu).at (i := i) (by omega) .i64
    have hy' := hy.up hu
    obtain ⟨q, g1, g2⟩ := hy'.at (i := i) (by omega) .i64
    rw [h1, OP_some, h2, OP_some, hob.ld (v := y) rfl, OP_some, g1, OP_some, g2, OP_some, e_not, BR_bool]
    have hdi : ds.getD i false = ds[i]'(by omega) := by rw [List.getD_eq_getElem?_getD, List.getElem?_eq_getElem (by omega)]; rfl
    have hni : nss.getD i [] = nss[i]'(by omega) := by rw [List.getD_eq_getElem?_getD, List.getElem?_eq_getElem (by omega)]; rfl
    have hnext : ∀ M', Up M0 M' → Ob M' b [y] Ty.sl_bool → okI nss ds i = false → OP (binI .add (iv i) (iv 1)) fun t => P_grph_next_1 (.pointer (some ⟨b, 0, none⟩)) x (iv nss.length) t M' Q := by
      intro M' hu' hob' hno
      rw [e_add, w64 (by omega) (by omega)]
      refine ih (i + 1) M' (by omega) hu' hob' fun j hj => ?_
      by_cases e : j = i
      · subst e; exact hno
      · exact hf j (by omega)
    split
    · rename_i hd
      have hd' : ds[i]'(by omega) = false := by simpa using hd
      have hm := List.getElem_mem (show i < nss.length by omega)
      obtain ⟨hlen, hjs⟩ := hr _ hm
      show OP (mkF (.func F.grph_next_c1) [] [.pointer (some ⟨b, 0, none⟩)]) _
      have hmk : mkF (.func F.grph_next_c1) [] [.pointer (some ⟨b, 0, none⟩)] = some (.func (.func F.grph_next_c1) #[] #[.pointer (some ⟨b, 0, none⟩)]) := rfl
      rw [hmk, OP_some]
      refine (ContainsFunc_int_ok h3 hlen (fun j => !ds.getD j.toNat false) fun M' hu' j hj => ?_).mono fun v M1 ⟨hu1, hv⟩ => ?_
      · show R F.grph_next_c1 #[iv j, .pointer (some ⟨b, 0, none⟩)] M' _
        exact (next_c1_ok (hob.up hu') (hy'.up hu') (hjs j hj).1 (hjs j hj).2).mono fun v M'' ⟨e1, e2⟩ => ⟨e1 ▸ Ch.refl _ _, e2⟩
      · subst hv
        have hall : (!(nss[i]'(by omega)).any fun j => !ds.getD j.toNat false) = (nss.getD i []).all fun j => ds.getD j.toNat false := by
          rw [hni, List.not_any_eq_all_not]
          simp
        rw [e_not, BR_bool, hall]
        split
        · rename_i hal
          have hok : okI nss ds i = true := by unfold okI; rw [hdi, hd', hal]; rfl
          have : nxtI nss ds = some i := by
            unfold nxtI
            rw [List.find?_range_eq_some]
            exact ⟨hok, by simp; omega, fun j hj => by simpa using hf j hj⟩
          have hQ' := hQ M1 (hu.trans hu1)
          rw [this] at hQ'
          exact ⟨rfl, hQ'⟩
        · rename_i hal
          refine hnext M1 (hu.trans hu1) (hob.up hu1) ?_
          unfold okI
          have hal' : ((nss.getD i []).all fun j => ds.getD j.toNat false) = false := by simpa using hal
          rw [hal', Bool.and_false]
    · rename_i hd
      refine hnext M hu hob ?_
      unfold okI
      have : ds[i]'(by omega) = true := by simpa using hd
      rw [hdi, this]; rfl

theorem next_ok {M : Store} {x y : Value} {nss : List (List Int)} {ds : List Bool} (hx : LI M x nss) (hy : LV tv Ty.bool M y ds) (hl : nss.length = ds.length) (hb : nss.length ≤ 2 ^ 26)
    (hr : ∀ ns ∈ nss, ns.length ≤ 2 ^ 40 ∧ ∀ j ∈ ns, 0 ≤ j ∧ j < ds.length) : R F.grph_next #[x, y] M fun v M' => Up M M' ∧ v = iv (plc (nxtI nss ds)) := by
  apply T_grph_next
  unfold S_grph_next
  obtain ⟨a, c, rfl⟩ := hy.slice
  have hbx : boxv (.slice a ds.length c) = some [.slice a ds.length c] := by kernel_rfl
  rw [hbx, OP_some, LT_eq, hx.lenV, OP_some]
  exact next_loop (hx.up LV.up' (Up.push M _)) (hy.up (Up.push M _)) hl hb hr (fun M' h => ⟨Ch.up (Up.push M _) h, rfl⟩) nss.length 0 _ rfl (Ch.refl _ _) (Ob.new M _ _) fun j h => by omega

end Go.G
