/- Layer 11: what is opened is one's own; for inputs of bulk at most 1048576. -/
import Derived.Test.YtmdbdbjaipcgeaaL11
namespace Go.G
open Go.Ab Go.Proofs Go.RowKit
set_option linter.unusedVariables false
set_option linter.unusedSimpArgs false
set_option maxRecDepth 100000

theorem N.boxed {M0 M : Store} {v : Value} {l : List UInt8} (h : N M0 M v l) (hl : 0 < l.length) : ∃ b c, v = .slice (some ⟨b, 0, none⟩) l.length c ∧ M0.n ≤ b ∧ b < M.n := by
  obtain ⟨h1, ⟨h0, _⟩ | ⟨b, cells, c, rfl, h2, h3, _⟩⟩ := h
  · omega
  · exact ⟨b, c, rfl, h2, M.lt_of_get h3⟩
theorem Nw.chB {s e M0 M M' v n cs} (h : Nw s e M0 M v n cs) {S : List Nat} (k : Ch S M M') (hS : ∀ b ∈ S, b < M0.n) : Nw s e M0 M' v n cs := by
  obtain ⟨h1, h | ⟨b, cells, c, rfl, h2, h3, h4⟩⟩ := h
  · exact ⟨h1, .inl h⟩
  · exact ⟨h1, .inr ⟨b, cells, c, rfl, h2, k.at h3 (fun hm => by have := hS b hm; omega), h4⟩⟩
/-- A byte of one's own slice is written, in a box that is known. -/
theorem N.putb {M0 M : Store} (hu : Up M0 M) {v : Value} {l : List UInt8} (h : N M0 M v l) {i : Nat} (hi : i < l.length) (k : IntKind) (x : UInt8) :
    ∃ p M', ixA 1 v (.int k (i : Int)) = some p ∧ ld 1 false p M = some (bv l[i]) ∧ st 1 p (bv x) M = some M' ∧ Up M0 M' ∧ N M0 M' v (l.set i x) ∧ ∃ b c, v = .slice (some ⟨b, 0, none⟩) l.length c ∧ Ch [b] M M' := by
  obtain ⟨q, eq, eld⟩ := By.at h.by (i := i) hi k
  obtain ⟨h1, ⟨h0, _⟩ | ⟨b, cells, c, rfl, h2, h3, h4, h5, h6⟩⟩ := h
  · omega
  · have hob : Ob M b cells Ty.uint8 := h3
    rw [Nat.mul_one] at h4 h5
    have eq' : ixA 1 (.slice (some ⟨b, 0, none⟩) l.length c) (.int k (i : Int)) = some (.pointer (some ⟨b, 0 + i * 1, none⟩)) := by
      simp only [ixA]; rw [if_pos ⟨by omega, by omega, trivial⟩]; simp
    rw [eq'] at eq; injection eq with eq; subst eq
    refine ⟨.pointer (some ⟨b, 0 + i * 1, none⟩), M.set b (some (.inl (cells.set i (bv x), Ty.uint8, true))), eq', eld, ?_, hu.ch (Ch.setO hob _) (fun c hc => by simp at hc; omega), ⟨by simp, .inr ⟨b, cells.set i (bv x), c, by rw [List.length_set], h2, hob.setSt _, by rw [List.length_set, List.length_set]; omega, ?_, by rw [List.length_set]; exact h6⟩⟩, b, c, rfl, Ch.setO hob _⟩
    · rw [show 0 + i * 1 = i by omega]; exact hob.st (by omega) rfl rfl
    · rw [List.length_set, Nat.mul_one, List.take_set, h5, List.map_set]
theorem inc8 (a : UInt8) (K : Value → Prop) : OP (binI .add (bv a) (.int .u8 1)) K = K (bv (UInt8.ofNat (a.toNat + 1))) := by
  unfold bv
  rw [e_add]
  have : IntKind.wrap .u8 ((a.toNat : Int) + 1) = ((UInt8.ofNat (a.toNat + 1)).toNat : Int) := by
    rw [← wrap_u8]; rfl
  rw [this]

theorem Own_loop1 {Mb M1 : Store} {x0 x1 x2 x3 x9 x10 x13 u w : Value} {y : List UInt8} {Q : Value → Store → Prop} : ∀ (d i : Nat) (M : Store) (l : List UInt8), d + i = l.length → l.length ≤ 2 ^ 26 → Up Mb M → N Mb M u l →
    (∀ b c, u = .slice (some ⟨b, 0, none⟩) l.length c → 0 < l.length → b < M1.n) → N M1 M w y → (∀ M', Up Mb M' → N M1 M' w y → P_fettlelaw11_ArtiOwn_2 x0 x1 x2 x3 x9 x10 w x13 M' Q) →
    P_fettlelaw11_ArtiOwn_1 x0 x1 x2 x3 x9 x10 u w x13 (.int .i64 (l.length : Int)) (.int .i64 (i : Int)) M Q := by
  intro d
  induction d with
  | zero =>
    intro i M l hi hle hu h hb hw hQ
    apply T_fettlelaw11_ArtiOwn_1
    unfold S_fettlelaw11_ArtiOwn_1
    rw [e_lss, BR_dec, if_neg (by omega)]
    exact hQ M hu hw
  | succ d ih =>
    intro i M l hi hle hu h hb hw hQ
    apply T_fettlelaw11_ArtiOwn_1
    unfold S_fettlelaw11_ArtiOwn_1
    obtain ⟨p, M', e1, e2, e3, hu', h', b, c, hv, hc⟩ := N.putb hu h (i := i) (by omega) .i64 (UInt8.ofNat ((l[i]'(by omega)).toNat + 1))
    rw [e_lss, BR_dec, if_pos (by omega), e1, OP_some, e2, OP_some, inc8, OP_some, e3, OP_some, e_add, w64 (by omega) (by omega)]
    have hbl := hb b c hv (by omega)
    have := ih (i + 1) M' (l.set i (UInt8.ofNat ((l[i]'(by omega)).toNat + 1))) (by rw [List.length_set]; omega) (by rw [List.length_set]; omega) hu' h' (fun b c h1 h2 => hb b c (by rw [List.length_set] at h1; exact h1) (by rw [List.length_set] at h2; exact h2))
      (Nw.chB hw hc fun z hz => by simp at hz; omega) hQ
    rw [List.length_set] at this
    exact this

theorem Own_loop2 {Mb : Store} {x0 x1 x2 x3 x9 x10 x13 w : Value} {Q : Value → Store → Prop} : ∀ (d i : Nat) (M : Store) (l : List UInt8), d + i = l.length → l.length ≤ 2 ^ 26 → Up Mb M → N Mb M w l →
    (∀ M', Up Mb M' → P_fettlelaw11_ArtiOwn_4 x0 x1 x2 x3 x9 x10 x13 M' Q) →
    P_fettlelaw11_ArtiOwn_3 x0 x1 x2 x3 x9 x10 w x13 (.int .i64 (l.length : Int)) (.int .i64 (i : Int)) M Q := by
  intro d
  induction d with
  | zero =>
    intro i M l hi hle hu h hQ
    apply T_fettlelaw11_ArtiOwn_3
    unfold S_fettlelaw11_ArtiOwn_3
    rw [e_lss, BR_dec, if_neg (by omega)]
    exact hQ M hu
  | succ d ih =>
    intro i M l hi hle hu h hQ
    apply T_fettlelaw11_ArtiOwn_3
    unfold S_fettlelaw11_ArtiOwn_3
    obtain ⟨p, M', e1, e2, e3, hu', h', b, c, hv, hc⟩ := N.putb hu h (i := i) (by omega) .i64 (UInt8.ofNat ((l[i]'(by omega)).toNat + 1))
    rw [e_lss, BR_dec, if_pos (by omega), e1, OP_some, e2, OP_some, inc8, OP_some, e3, OP_some, e_add, w64 (by omega) (by omega)]
    have := ih (i + 1) M' (l.set i (UInt8.ofNat ((l[i]'(by omega)).toNat + 1))) (by rw [List.length_set]; omega) (by rw [List.length_set]; omega) hu' h' hQ
    rw [List.length_set] at this
    exact this

theorem ArtiOwn_ok {M : Store} {v0 v1 v2 v3 : Value} {x y x' y' : List UInt8} (hx : B M v0 x) (hy : B M v1 y) (hx' : B M v2 x') (hy' : B M v3 y') (l0 : x.length ≤ 2 ^ 22) (l1 : y.length ≤ 2 ^ 22) (l2 : x'.length ≤ 2 ^ 22) (l3 : y'.length ≤ 2 ^ 22) :
    R F.fettlelaw11_ArtiOwn #[v0, v1, v2, v3] M fun v M' => v = .bool true := by
  refine R.cps fun Q hQ => ?_
  apply T_fettlelaw11_ArtiOwn
  unfold S_fettlelaw11_ArtiOwn
  have hend : ∀ M1, R F.fettlelaw11_awake #[] M1 fun t31 M2 => NTs [t31] ∧ Q t31 M2 := by
    intro M1
    refine (awake11_ok M1).mono fun v M2 ⟨hu2, hv⟩ => ?_
    subst hv; exact ⟨rfl, hQ _ _ rfl⟩
  rw [hx.lenV, OP_some, hy.lenV, OP_some, e_add, w64 (by omega) (by omega), hx'.lenV, OP_some, e_add, w64 (by omega) (by omega), hy'.lenV, OP_some, e_add, w64 (by omega) (by omega), e_gtr, BR_dec]
  split
  · exact hend _
  rw [OP_some, e_gtr, BR_dec]
  split
  · exact hend _
  rw [OP_some, e_gtr, BR_dec]
  split
  · exact hend _
  rename_i g1 g2 g3
  refine (Make_ok hx hy (by omega) (by omega)).mono fun v4 M4 ⟨hu4, h4⟩ => ?_
  have hml := makeF_length x y
  rw [cvBS_ok h4.by, OP_some]
  refine (Open_ok h4.by (by omega)).mono fun r5 M5 ⟨hu5, ho5⟩ => ?_
  rw [openF_make _ _ (by omega) (by omega)] at ho5
  obtain ⟨u, w, M5', hr5, hu1, hu2, hw, n1, n2⟩ := ho5
  subst hr5
  have hu1 : N M4 M5' u x := hu1
  have hu2 : N M4 M5 u x := hu2
  have hw : N M5' M5 w y := hw
  rw [tup3_0, OP_some, tup3_1, OP_some, tup3_2, OP_some, hu2.sl.lenV, OP_some]
  refine Own_loop1 (Mb := M4) (M1 := M5') (y := y) x.length 0 M5 x rfl (by omega) hu5 hu2 (fun b c hv hl => ?_) hw fun M6 hu6 hw6 => ?_
  · obtain ⟨b', c', hv', _, hlt⟩ := N.boxed hu1 hl
    rw [hv] at hv'
    injection hv' with hv'
    injection hv' with hv'
    injection hv' with hv'
    omega
  apply T_fettlelaw11_ArtiOwn_2
  unfold S_fettlelaw11_ArtiOwn_2
  rw [hw6.sl.lenV, OP_some]
  refine Own_loop2 (Mb := M4) y.length 0 M6 y rfl (by omega) hu6 (Nw.base hw6 n1) fun M7 hu7 => ?_
  apply T_fettlelaw11_ArtiOwn_4
  unfold S_fettlelaw11_ArtiOwn_4
  have h47 : B M7 v4 (makeF x y) := Sl.up h4.by hu7
  have uM7 : Up M M7 := hu4.trans hu7
  rw [BR_bool, if_pos (by simp), cvBS_ok h47, OP_some, str_eql, BR_dec, if_pos rfl]
  refine (Make_ok (Sl.up hx' uM7) (Sl.up hy' uM7) (by omega) (by omega)).mono fun v8 M8 ⟨hu8, h8⟩ => ?_
  have uM8 : Up M M8 := uM7.trans hu8
  refine ⟨hu8.tdj _ _, ?_⟩
  have hinj := makeF_inj (x := x') (y := y') (x' := x) (y' := y) (by omega) (by omega) (by omega) (by omega)
  have hend2 : ∀ {bs Ns : List Nat} {i : Nat}, R F.fettlelaw11_awake #[] M8 fun t31 M2 => TDx bs Ns i M8 M2 ∧ NTs [t31] ∧ Q t31 M2 := by
    intro bs Ns i
    refine (awake11_ok M8).mono fun v M2 ⟨hu2, hv⟩ => ?_
    subst hv; exact ⟨hu2.tdx _ _ _, rfl, hQ _ _ rfl⟩
  rw [cvBS_ok h8.by, OP_some, str_eql, cvBS_ok (Sl.up hx uM8), OP_some, cvBS_ok (Sl.up hx' uM8), OP_some, str_eql]
  have hB3 : ∀ (p : Prop) [Decidable p] (A B C : Prop), BR3 (.bool (decide p)) A B C = if p then A else B := by
    intro p _ A B C
    by_cases hp : p <;> simp [hp, BR3]
  rw [hB3]
  split
  · rename_i hxx
    rw [cvBS_ok (Sl.up hy uM8), OP_some, cvBS_ok (Sl.up hy' uM8), OP_some, str_eql, abin_bool_eq, OP_some, BR_bool, if_pos]
    · exact hend2
    · rw [beq_iff_eq, decide_eq_decide, hinj]
      constructor
      · rintro ⟨_, rfl⟩; rfl
      · rintro rfl; exact ⟨hxx.symm, rfl⟩
  · rename_i hxx
    rw [abin_bool_eq, OP_some, BR_bool, if_pos]
    · exact hend2
    · rw [beq_iff_eq, decide_eq_false_iff_not, hinj]
      rintro ⟨rfl, _⟩; exact hxx rfl

end Go.G
