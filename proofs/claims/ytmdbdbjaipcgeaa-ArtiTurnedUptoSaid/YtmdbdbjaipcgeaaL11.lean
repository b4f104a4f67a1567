/- Layer 11: what the document fixes; artifacts told, turned, and owned; for inputs of bulk at most 1048576. -/
import Derived.Test.YtmdbdbjaipcgeaaE11b
import Derived.Test.YtmdbdbjaipcgeaaL3b
namespace Go.G
open Go.Ab Go.Proofs Go.RowKit
set_option linter.unusedVariables false
set_option linter.unusedSimpArgs false
set_option maxRecDepth 100000

theorem abin_bool_eq (a b : Bool) : abin Try.prog false .eql Ty.bool (.bool a) (.bool b) = some (.bool (a == b)) := by
  cases a <;> cases b <;> simp [abin, aeq, U.bool]
theorem abin_bool_ne (a b : Bool) : abin Try.prog false .neq Ty.bool (.bool a) (.bool b) = some (.bool (a != b)) := by
  cases a <;> cases b <;> simp [abin, aeq, U.bool]

theorem awake11_ok (M : Store) : R F.fettlelaw11_awake #[] M fun v M' => Up M M' ∧ v = .bool true := by
  refine R.cps fun Q hQ => ?_
  apply T_fettlelaw11_awake
  unfold S_fettlelaw11_awake
  have e97 : (.int .u8 112 : Value) = bv 112 := rfl
  rw [e_lit1]
  simp only [LT_eq]
  rw [e97]
  have hN1 : N M (M.push (some (.inl ([bv 112], Ty.uint8, true)))) (.slice (some ⟨M.n, 0, none⟩) 1 1) [112] := Nw.lit (n := 1) (Nat.le_refl _) rfl
  refine conv_ok (Up.push M _) hN1 (by simp) fun M2 hu2 h2 _ => ?_
  have e5 : ∀ K : List Value → Prop, OP (bldL (.int .u8 0) 1 5 [(0, (.int .u8 118)), (1, (.int .u8 97)), (2, (.int .u8 108)), (3, (.int .u8 117)), (4, (.int .u8 101))]) K = K [bv 118, bv 97, bv 108, bv 117, bv 101] := fun K => by kernel_rfl
  rw [e5]
  have hN2 : N M2 (M2.push (some (.inl ([bv 118, bv 97, bv 108, bv 117, bv 101], Ty.uint8, true)))) (.slice (some ⟨M2.n, 0, none⟩) 5 5) [118, 97, 108, 117, 101] := Nw.lit (n := 5) (Nat.le_refl _) rfl
  refine conv_ok (Up.push M2 _) hN2 (by simp) fun M4 hu4 h4 _ => ?_
  refine (Make_ok (Sl.up h2.by hu4) h4.by (by simp) (by simp)).mono fun v5 M5 ⟨hu5, h5⟩ => ?_
  have hml : (makeF [112] [118, 97, 108, 117, 101]).length = 28 := by rw [makeF_length]; rfl
  refine (Open_ok h5.by (by omega)).mono fun r6 M6 ⟨hu6, ho6⟩ => ?_
  rw [openF_make _ _ (by simp) (by simp)] at ho6
  obtain ⟨u, w, M6', hr6, _, hu', hw', _, _⟩ := ho6
  subst hr6
  rw [tup3_0, OP_some, tup3_1, OP_some, tup3_2, OP_some, h5.sl.lenV, OP_some, hml]
  have eq1 : binI .quo (.int .i64 ((28 : Nat) : Int)) (.int .i64 2) = some (.int .i64 ((14 : Nat) : Int)) := by kernel_rfl
  rw [eq1, OP_some]
  obtain ⟨w7, e7, hw7⟩ := By.cut (Sl.up h5.by hu6) (lo := none) (hi := some (.int .i64 ((14 : Nat) : Int))) (a := 0) (r := 14) (abound_nat (by omega)) rfl (by omega) (by omega)
  rw [List.drop_zero] at hw7
  rw [e7, OP_some]
  refine (Open_ok hw7 (by simp; omega)).mono fun r8 M8 ⟨hu8, ho8⟩ => ?_
  rw [make_take _ _ (by simp) 14 (by rw [hml]; omega)] at ho8
  obtain ⟨u8, w8, _, hr8, _, _, _, _, _⟩ := ho8
  subst hr8
  have eq2 : ∀ K : Value → Prop, OP (binI .eql (.int .i64 ((28 : Nat) : Int)) (.int .i64 28)) K = K (.bool true) := fun K => by kernel_rfl
  have ha : B M8 u [112] := Sl.up hu'.by hu8
  have hb : B M8 w [118, 97, 108, 117, 101] := Sl.up hw'.by hu8
  have es : ∀ K : Value → Prop, OP (binS .eql (.string ⟨[112].toArray⟩) (.string ⟨#[112]⟩)) K = K (.bool true) := fun K => by
    have := str_eql [112] [112] K
    simpa using this
  have es2 : ∀ K : Value → Prop, OP (binS .eql (.string ⟨[118, 97, 108, 117, 101].toArray⟩) (.string ⟨#[118, 97, 108, 117, 101]⟩)) K = K (.bool true) := fun K => by
    have := str_eql [118, 97, 108, 117, 101] [118, 97, 108, 117, 101] K
    simpa using this
  rw [tup3_0, OP_some, tup3_1, OP_some, tup3_2, OP_some, OP_some, eq2, BR_bool, if_pos rfl, BR_bool, if_pos (by simp), cvBS_ok ha, OP_some, es, BR_bool, if_pos rfl, cvBS_ok hb, OP_some, es2, BR_bool, if_pos rfl, e_not]
  exact ⟨rfl, hQ _ _ ⟨((((hu2.trans hu4).trans hu5).trans hu6).trans hu8), rfl⟩⟩

theorem e_and7 (n : Nat) (hn : n < 2 ^ 40) : ∃ k : Nat, k < 8 ∧ binI .and (.int .i64 (n : Int)) (.int .i64 7) = some (.int .i64 (k : Int)) := by
  have h : binI .and (.int .i64 (n : Int)) (.int .i64 7) = some (.int .i64 (IntKind.wrap .i64 (BitVec.ofInt 64 n &&& BitVec.ofInt 64 7).toNat)) := rfl
  have hk : (BitVec.ofInt 64 n &&& BitVec.ofInt 64 7).toNat < 8 := by
    rw [BitVec.toNat_and]
    have : (BitVec.ofInt 64 7).toNat = 7 := rfl
    rw [this]
    exact Nat.lt_of_le_of_lt Nat.and_le_right (by decide)
  refine ⟨_, hk, ?_⟩
  rw [h, w64 (by omega) (by omega)]
theorem shl_bit {j : Nat} (hj : j < 8) : ∃ b : UInt8, b ≠ 0 ∧ binI .shl (.int .u8 1) (.int .u64 (j : Int)) = some (bv b) := by
  have : j = 0 ∨ j = 1 ∨ j = 2 ∨ j = 3 ∨ j = 4 ∨ j = 5 ∨ j = 6 ∨ j = 7 := by omega
  rcases this with rfl | rfl | rfl | rfl | rfl | rfl | rfl | rfl
  · exact ⟨1, by decide, by kernel_rfl⟩
  · exact ⟨2, by decide, by kernel_rfl⟩
  · exact ⟨4, by decide, by kernel_rfl⟩
  · exact ⟨8, by decide, by kernel_rfl⟩
  · exact ⟨16, by decide, by kernel_rfl⟩
  · exact ⟨32, by decide, by kernel_rfl⟩
  · exact ⟨64, by decide, by kernel_rfl⟩
  · exact ⟨128, by decide, by kernel_rfl⟩
theorem e_xor8 (a b : UInt8) : binI .xor (bv a) (bv b) = some (bv (a ^^^ b)) := by
  have h : binI .xor (bv a) (bv b) = some (.int .u8 (IntKind.wrap .u8 (BitVec.ofInt 8 (a.toNat : Int) ^^^ BitVec.ofInt 8 (b.toNat : Int)).toNat)) := rfl
  have g : ∀ c : UInt8, BitVec.ofInt 8 (c.toNat : Int) = c.toBitVec := by
    intro c
    apply BitVec.eq_of_toNat_eq
    rw [BitVec.toNat_ofInt]
    have := c.toNat_lt
    have e : c.toBitVec.toNat = c.toNat := rfl
    omega
  rw [h, g, g, wrap_u8]
  simp [bv]
theorem xor8_ne {a b : UInt8} (h : b ≠ 0) : a ^^^ b ≠ a := by
  intro e
  apply h
  have := congrArg (fun z => a ^^^ z) e
  simpa [← UInt8.xor_assoc] using this
theorem e_quo (a b : Nat) (hb : 0 < b) (ha : a < 2 ^ 62) : binI .quo (.int .i64 (a : Int)) (.int .i64 (b : Int)) = some (.int .i64 ((a / b : Nat) : Int)) := by
  have h : binI .quo (.int .i64 (a : Int)) (.int .i64 (b : Int)) = if (b : Int) = 0 then none else some (.int .i64 (IntKind.wrap .i64 ((a : Int).tdiv b))) := rfl
  have h2 : (a : Int).tdiv b = ((a / b : Nat) : Int) := by rw [Int.tdiv_eq_ediv_of_nonneg (by omega)]; rfl
  have h3 : a / b ≤ a := Nat.div_le_self _ _
  rw [h, if_neg (by omega), h2]
  generalize a / b = q at *
  rw [w64 (by omega) (by omega)]

theorem ArtiTurned_ok {M : Store} {v0 v1 : Value} {x y : List UInt8} (hx : B M v0 x) (hy : B M v1 y) {n m : Int} (n1 : -9223372036854775808 ≤ n) (n2 : n ≤ 9223372036854775807) (m1 : -9223372036854775808 ≤ m) (m2 : m ≤ 9223372036854775807) :
    R F.fettlelaw11_ArtiTurned #[v0, v1, .int .i64 n, .int .i64 m] M fun v M' => v = .bool true := by
  refine R.cps fun Q hQ => ?_
  apply T_fettlelaw11_ArtiTurned
  unfold S_fettlelaw11_ArtiTurned
  have hend : ∀ M1, R F.fettlelaw11_awake #[] M1 fun t31 M2 => NTs [t31] ∧ Q t31 M2 := by
    intro M1
    refine (awake11_ok M1).mono fun v M2 ⟨hu2, hv⟩ => ?_
    subst hv; exact ⟨rfl, hQ _ _ rfl⟩
  rw [hx.lenV, OP_some, e_gtr, BR_dec]
  split
  · exact hend _
  rw [hy.lenV, OP_some, e_gtr, BR_dec]
  split
  · exact hend _
  rename_i hx2 hy2
  refine (Make_ok hx hy (by omega) (by omega)).mono fun v3 M3 ⟨hu3, h3⟩ => ?_
  have hml := makeF_length x y
  refine (Open_ok h3.by (by omega)).mono fun r4 M4 ⟨hu4, ho4⟩ => ?_
  rw [openF_make _ _ (by omega) (by omega)] at ho4
  obtain ⟨u, w, M4', hr4, _, hu', hw', _, _⟩ := ho4
  subst hr4
  have uM4 := hu3.trans hu4
  rw [tup3_0, OP_some, tup3_1, OP_some, tup3_2, OP_some, e_not, BR_bool, if_neg (by simp), cvBS_ok hu'.by, OP_some, cvBS_ok (Sl.up hx uM4), OP_some, str_neq, BR_dec, if_neg (by simp),
    cvBS_ok hw'.by, OP_some, cvBS_ok (Sl.up hy uM4), OP_some, str_neq, BR_dec, if_neg (by simp), e_lit0, LT_eq]
  have h34 : B M4 v3 (makeF x y) := Sl.up h3.by hu4
  refine copy0 h34 (by omega) fun v6 M6 hu6 h6 => ?_
  obtain ⟨k, hk, ek⟩ := e_and16 n n1 n2
  rw [ek, OP_some, h3.sl.lenV, OP_some, e_mul, w64 (by omega) (by omega)]
  have e8 : (8 : Int) * ((makeF x y).length : Int) = ((8 * (makeF x y).length : Nat) : Int) := by omega
  rw [e8, e_rem _ _ (by omega), OP_some]
  have hlt : k % (8 * (makeF x y).length) < 8 * (makeF x y).length := Nat.mod_lt _ (by omega)
  generalize k % (8 * (makeF x y).length) = p at *
  have eq8 : binI .quo (.int .i64 (p : Int)) (.int .i64 8) = some (.int .i64 ((p / 8 : Nat) : Int)) := e_quo p 8 (by omega) (by omega)
  rw [eq8, OP_some, OP_some]
  have hp8 : p / 8 < (makeF x y).length := by omega
  generalize p / 8 = i at *
  obtain ⟨q, eq, eld⟩ := By.at h6.by (i := i) hp8 .i64
  obtain ⟨j, hj, ej⟩ := e_and7 p (by omega)
  rw [eq, OP_some, eld, OP_some, ej, OP_some, e_cvI, wrap_u64 _ (by omega)]
  obtain ⟨b, hb, eb⟩ := shl_bit hj
  rw [eb, OP_some, e_xor8, OP_some]
  obtain ⟨q', M7, e7, e7', hu7, h7, _⟩ := N.put hu6 h6 hp8 .i64 ((makeF x y)[i] ^^^ b)
  have hqq : q' = q := by rw [eq] at e7; injection e7 with e7; exact e7.symm
  subst hqq
  rw [OP_some, e7', OP_some]
  refine (Open_ok h7.by (by simp; omega)).mono fun r8 M8 ⟨hu8, ho8⟩ => ?_
  rw [make_set hp8 (xor8_ne hb)] at ho8
  obtain ⟨_, _, _, hr8, _, _, _, _, _⟩ := ho8
  subst hr8
  have u48 : Up M4 M8 := hu7.trans hu8
  obtain ⟨k2, hk2, ek2⟩ := e_and16 m m1 m2
  rw [tup3_0, OP_some, tup3_1, OP_some, tup3_2, OP_some, ek2, OP_some, OP_some, e_rem _ _ (by omega), OP_some]
  have hlt2 : k2 % (makeF x y).length < (makeF x y).length := Nat.mod_lt _ (by omega)
  generalize k2 % (makeF x y).length = p2 at *
  obtain ⟨w9, e9, hw9⟩ := By.cut (Sl.up h34 u48) (lo := none) (hi := some (.int .i64 (p2 : Int))) (a := 0) (r := p2) (abound_nat (by omega)) rfl (by omega) (by omega)
  rw [List.drop_zero] at hw9
  rw [e9, OP_some]
  refine (Open_ok hw9 (by simp; omega)).mono fun r9 M9 ⟨hu9, ho9⟩ => ?_
  rw [make_take x y (by omega) p2 hlt2] at ho9
  obtain ⟨_, _, _, hr9, _, _, _, _, _⟩ := ho9
  subst hr9
  rw [tup3_0, OP_some, tup3_1, OP_some, tup3_2, OP_some, e_lit0, LT_eq]
  have h39 : B M9 v3 (makeF x y) := Sl.up (Sl.up h34 u48) hu9
  refine copy0 h39 (by omega) fun v11 M11 hu11 h11 => ?_
  have e0 : (.int .u8 0 : Value) = bv 0 := rfl
  rw [e_lit1, LT_eq, e0]
  have h12 : N M9 (M11.push (some (.inl ([bv 0], Ty.uint8, true)))) (.slice (some ⟨M11.n, 0, none⟩) 1 1) [0] := Nw.lit (n := 1) hu11.le rfl
  obtain ⟨v13, M13, e13, hu13, h13, _⟩ := NB.app (hu11.push' _) (Nw.up h11 (Up.push M11 _)) h12.by (by simp; omega)
  rw [e13, OP2_some]
  refine (Open_ok h13.by (by simp; omega)).mono fun r14 M14 ⟨hu14, ho14⟩ => ?_
  rw [make_more x y (by omega) 0] at ho14
  obtain ⟨_, _, _, hr14, _, _, _, _, _⟩ := ho14
  subst hr14
  rw [tup3_0, OP_some, tup3_1, OP_some, tup3_2, OP_some]
  simp only [e_not, BR_bool, Option.isSome_none, Bool.not_false, if_true]
  exact hend _

/-- Told slices, one behind the other. -/
theorem L11_loop {x75 : Value} {xs : List (List UInt8)} (hxs : ∀ x ∈ xs, x.length ≤ 2 ^ 24) (hxl : xs.length ≤ 100) {Q : Value → Store → Prop} (hQ : ∀ M', Q (.bool true) M') :
    ∀ (k i : Nat) (M : Store), k + i = xs.length → BB M x75 xs →
    P_fettlelaw11_ArtiTells_1 x75 (.int .i64 (xs.length : Int)) (.int .i64 (i : Int)) M Q := by
  intro k
  induction k with
  | zero =>
    intro i M hi hls
    apply T_fettlelaw11_ArtiTells_1
    unfold S_fettlelaw11_ArtiTells_1
    simp (disch := omega) only [ev, if_neg]
    apply T_fettlelaw11_ArtiTells_3
    unfold S_fettlelaw11_ArtiTells_3
    refine (awake11_ok M).mono fun v M2 ⟨hu2, hv⟩ => ?_
    subst hv; exact ⟨rfl, hQ _⟩
  | succ k ih =>
    intro i M hi hls
    apply T_fettlelaw11_ArtiTells_1
    unfold S_fettlelaw11_ArtiTells_1
    simp (disch := omega) only [ev, if_pos]
    apply T_fettlelaw11_ArtiTells_2
    unfold S_fettlelaw11_ArtiTells_2
    obtain ⟨p, q, p1, p2, p3⟩ := hls.at (i := i) (by omega) .i64
    have hl := hxs _ (List.getElem_mem (show i < xs.length by omega))
    generalize hl : xs[i]'(by omega) = l at *
    have p3 : B M q l := p3
    rw [p1, OP_some, p2, OP_some]
    refine (Open_ok p3 (by assumption)).mono fun r1 M1 ⟨hu1, u, w, M1', hr1, _, h2, h3, _⟩ => ?_
    subst hr1
    rw [tup3_0, OP_some, tup3_1, OP_some, tup3_2, OP_some]
    refine (ROpen_ok (Sl.up p3 hu1) (by assumption)).mono fun r2 M2 ⟨hu2, u', w', hr2, h4, h5⟩ => ?_
    subst hr2
    rw [tup3_0, OP_some, tup3_1, OP_some, tup3_2, OP_some, abin_bool_ne, OP_some, BR_bool, if_neg (by simp), cvBS_ok (Sl.up h2.by hu2), OP_some, cvBS_ok h4, OP_some, str_neq, BR_dec, if_neg (by simp),
      cvBS_ok (Sl.up h3.by hu2), OP_some, cvBS_ok h5, OP_some, str_neq, BR_dec, if_neg (by simp), e_add, w64 (by omega) (by omega)]
    exact ih (i + 1) M2 (by omega) (hls.up By.up' (hu1.trans hu2))

theorem isSome_up {M M' : Store} {b : Nat} (h : Up M M') (hs : (M.get b).isSome = true) : (M'.get b).isSome = true := by
  obtain ⟨x, hx⟩ := Option.isSome_iff_exists.1 hs
  rw [h.get hx]; rfl
theorem e_lit1b (z : Value) (a : UInt8) (K : List Value → Prop) : OP (bldL z 1 1 [(0, bv a)]) K = K [bv a] := e_lit1 z _ _ K
theorem e_lit6s (z : Value) (a b c d e f : Option Addr) (n1 c1 n2 c2 n3 c3 n4 c4 n5 c5 n6 c6 : Nat) (K : List Value → Prop) : OP (bldL z 1 6 [(0, .slice a n1 c1), (1, .slice b n2 c2), (2, .slice c n3 c3), (3, .slice d n4 c4), (4, .slice e n5 c5), (5, .slice f n6 c6)]) K = K [.slice a n1 c1, .slice b n2 c2, .slice c n3 c3, .slice d n4 c4, .slice e n5 c5, .slice f n6 c6] := by kernel_rfl

theorem ArtiTells_ok {M : Store} {v0 v1 v2 : Value} {x y z : List UInt8} (hx : B M v0 x) (hy : B M v1 y) (hz : B M v2 z) {n : Int} (n1 : -9223372036854775808 ≤ n) (n2 : n ≤ 9223372036854775807) (c : UInt8) :
    R F.fettlelaw11_ArtiTells #[v0, v1, v2, .int .i64 n, bv c] M fun v M' => v = .bool true := by
  refine R.cps fun Q hQ => ?_
  apply T_fettlelaw11_ArtiTells
  unfold S_fettlelaw11_ArtiTells
  have hend : ∀ M1, R F.fettlelaw11_awake #[] M1 fun t31 M2 => NTs [t31] ∧ Q t31 M2 := by
    intro M1
    refine (awake11_ok M1).mono fun v M2 ⟨hu2, hv⟩ => ?_
    subst hv; exact ⟨rfl, hQ _ _ rfl⟩
  rw [hx.lenV, OP_some, e_gtr, BR_dec]
  split
  · exact hend _
  rw [hy.lenV, OP_some, e_gtr, BR_dec]
  split
  · exact hend _
  rw [hz.lenV, OP_some, e_gtr, BR_dec]
  split
  · exact hend _
  rename_i hx2 hy2 hz2
  have hml := makeF_length x y
  refine (RMake_ok hx hy (by omega) (by omega)).mono fun v4 M4 ⟨hu4, h4⟩ => ?_
  refine (Make_ok (Sl.up hx hu4) (Sl.up hy hu4) (by omega) (by omega)).mono fun v5 M5 ⟨hu5, h5⟩ => ?_
  refine ⟨hu5.tdj _ _, ?_⟩
  generalize makeF x y = mk at *
  have h45 : B M5 v4 mk := Sl.up h4.by hu5
  rw [cvBS_ok h5.by, OP_some, cvBS_ok h45, OP_some, str_neq, BR_dec, if_neg (by simp), e_lit0, LT_eq]
  refine copy0 h45 (by omega) fun v7 M7 hu7 h7 => ?_
  obtain ⟨k, hk, ek⟩ := e_and16 n n1 n2
  rw [ek, OP_some, h7.sl.lenV, OP_some, e_rem _ _ (by omega), OP_some]
  have hlt : k % mk.length < mk.length := Nat.mod_lt _ (by omega)
  generalize k % mk.length = i at *
  obtain ⟨q', M8, e7, e7', hu8, h8, _⟩ := N.put hu7 h7 hlt .i64 c
  rw [e7, OP_some, e7', OP_some]
  have h48 : B M8 v4 mk := Sl.up h45 hu8
  obtain ⟨w9, e9, hw9⟩ := By.cut h48 (lo := none) (hi := some (.int .i64 (i : Int))) (a := 0) (r := i) (abound_nat (by omega)) rfl (by omega) (by omega)
  rw [List.drop_zero] at hw9
  rw [e9, OP_some, e_lit0, LT_eq]
  have u9 := Up.push M8 (some (.inl (([] : List Value), Ty.uint8, true)))
  have n9 : (M8.push (some (.inl (([] : List Value), Ty.uint8, true)))).n = M8.n + 1 := rfl
  generalize M8.push (some (.inl (([] : List Value), Ty.uint8, true))) = M9 at *
  obtain ⟨v10, M10, e10, hu10, h10, _, _, hc10⟩ := NB.app (Ch.refl [] M9) (N.lit0 M9 M9 (some ⟨M8.n, 0, none⟩) fun x hx => by injection hx with hx; subst hx; rfl) (Sl.up h48 u9) (by simp; omega)
  rw [e10, OP2_some]
  have hc10' : Up M9 M10 := hc10
  refine ⟨hc10'.tdj _ _, ?_⟩
  rw [List.nil_append] at h10
  rw [e_lit1b, LT_eq]
  have u11 := Up.push M10 (some (.inl ([bv c], Ty.uint8, true)))
  have n11 : (M10.push (some (.inl ([bv c], Ty.uint8, true)))).n = M10.n + 1 := rfl
  have h11 : N M10 (M10.push (some (.inl ([bv c], Ty.uint8, true)))) (.slice (some ⟨M10.n, 0, none⟩) 1 1) [c] := Nw.lit (n := 1) (Nat.le_refl _) rfl
  generalize M10.push (some (.inl ([bv c], Ty.uint8, true))) = M11 at *
  obtain ⟨v12, M12, e12, hu12, h12, _, _, hc12⟩ := NB.app (hu10.trans u11) (Nw.up h10 u11) h11.by (by simp; omega)
  rw [e12, OP2_some]
  refine ⟨tdj_app hc12 (j := 8) (by simp) fun b hb => ?_, ?_⟩
  · obtain ⟨g1, g2, g3⟩ := Nw.kil_in h10 hb
    exact ⟨isSome_up u11 g3, g1, g2⟩
  have u812 : Up M8 M12 := u9.trans hu12
  rw [e_lit0, LT_eq]
  have u13 := Up.push M12 (some (.inl (([] : List Value), Ty.uint8, true)))
  have n13 : (M12.push (some (.inl (([] : List Value), Ty.uint8, true)))).n = M12.n + 1 := rfl
  generalize M12.push (some (.inl (([] : List Value), Ty.uint8, true))) = M13 at *
  have h413 : B M13 v4 mk := Sl.up (Sl.up h48 u812) u13
  obtain ⟨v14, M14, e14, hu14, h14, _, _, hc14⟩ := NB.app (Ch.refl [] M13) (N.lit0 M13 M13 (some ⟨M12.n, 0, none⟩) fun x hx => by injection hx with hx; subst hx; rfl) h413 (by simp; omega)
  rw [e14, OP2_some]
  have hc14' : Up M13 M14 := hc14
  refine ⟨hc14'.tdj _ _, ?_⟩
  rw [List.nil_append] at h14
  obtain ⟨v15, M15, e15, hu15, h15, _, _, hc15⟩ := NB.app hu14 h14 (Sl.up h413 hu14) (by omega)
  rw [e15, OP2_some]
  refine ⟨tdj_app hc15 (j := 14) (by simp) fun b hb => ?_, ?_⟩
  · obtain ⟨g1, g2, g3⟩ := Nw.kil_in h14 hb
    exact ⟨g3, g1, g2⟩
  have u815 : Up M8 M15 := (u812.trans u13).trans hu15
  have u1215 : Up M12 M15 := u13.trans hu15
  have uM8 : Up M M8 := (hu4.trans hu5).trans hu8
  have uM15 := uM8.trans u815
  have g0 : B M15 v2 z := Sl.up hz uM15
  have g1 : B M15 v4 mk := Sl.up h48 u815
  have g2 : B M15 v7 (mk.set i c) := Sl.up h8.by u815
  have g3 : B M15 w9 (mk.take i) := Sl.up hw9 u815
  have g4 : B M15 v12 (mk ++ [c]) := Sl.up h12.by u1215
  have g5 : B M15 v15 (mk ++ mk) := h15.by
  obtain ⟨a0, c0, rfl⟩ := g0.slice
  obtain ⟨a1, c1, rfl⟩ := g1.slice
  obtain ⟨a2, c2, rfl⟩ := g2.slice
  obtain ⟨a3, c3, rfl⟩ := g3.slice
  obtain ⟨a4, c4, rfl⟩ := g4.slice
  obtain ⟨a5, c5, rfl⟩ := g5.slice
  rw [e_lit6s, LT_eq, e_lenV]
  have u4 := Up.push M15 (some (.inl ([Value.slice a0 z.length c0, .slice a1 mk.length c1, .slice a2 (mk.set i c).length c2, .slice a3 (mk.take i).length c3, .slice a4 (mk ++ [c]).length c4, .slice a5 (mk ++ mk).length c5], Ty.sl_uint8, true)))
  have hBB : BB (M15.push (some (.inl ([Value.slice a0 z.length c0, .slice a1 mk.length c1, .slice a2 (mk.set i c).length c2, .slice a3 (mk.take i).length c3, .slice a4 (mk ++ [c]).length c4, .slice a5 (mk ++ mk).length c5], Ty.sl_uint8, true)))) (.slice (some ⟨M15.n, 0, none⟩) 6 6) [z, mk, mk.set i c, mk.take i, mk ++ [c], mk ++ mk] := by
    refine ⟨_, (Nw.lit (s := 1) (M0 := M15) (n := 6) (Nat.le_refl _) rfl).sl, ?_, ?_, ?_, ?_, ?_, ?_, trivial⟩
    · exact Sl.up g0 u4
    · exact Sl.up g1 u4
    · exact Sl.up g2 u4
    · exact Sl.up g3 u4
    · exact Sl.up g4 u4
    · exact Sl.up g5 u4
  refine L11_loop (xs := [z, mk, mk.set i c, mk.take i, mk ++ [c], mk ++ mk]) ?_ (by simp) (fun M' => hQ _ _ rfl) 6 0 _ rfl hBB
  intro x hx
  simp only [List.mem_cons, List.not_mem_nil, or_false] at hx
  rcases hx with rfl | rfl | rfl | rfl | rfl | rfl <;> simp <;> omega

end Go.G
