/- Layer 3: frames told, from the beginning. -/
import Derived.Test.YtmdbdbjaipcgeaaL3
namespace Go.G
open Go.Ab Go.Proofs Go.RowKit
set_option linter.unusedVariables false
set_option linter.unusedSimpArgs false
set_option maxRecDepth 100000

theorem tdj_app {js Ns : List Nat} {v : Value} {M M' : Store} (h : Ch (kl v) M M') {j : Nat} (hj : j ∈ js) (hk : ∀ b, kil v = some b → (M.get b).isSome = true ∧ Ns.getD j 0 ≤ b ∧ b < Ns.getD (j + 1) 0) : TDj js Ns M M' := by
  refine ⟨h.n, fun b hb => ?_⟩
  rcases h.tdiff b hb with h1 | h1
  · exact .inl h1
  · have h2 : kil v = some b := by
      cases hk' : kil v with
      | none => simp [kl, hk'] at h1
      | some c => simp [kl, hk'] at h1; rw [h1]
    obtain ⟨h3, h4⟩ := hk b h2
    exact .inr ⟨h3, j, hj, h4⟩
theorem Nw.kil_in {s e Mb M v n cs} (h : Nw s e Mb M v n cs) {i : Nat} (hi : kil v = some i) : Mb.n ≤ i ∧ i < M.n ∧ (M.get i).isSome = true := by
  refine ⟨h.kil_ge hi, ?_⟩
  obtain ⟨h1, ⟨rfl, a, rfl, h2⟩ | ⟨b, cells, c, rfl, h2, h3, h4⟩⟩ := h
  · cases a <;> simp [kil] at hi
  · simp only [kil] at hi
    split at hi
    · cases hi
    · injection hi with hi; subst hi; exact ⟨M.lt_of_get h3, by rw [h3]; rfl⟩
/-- An empty literal. -/
theorem N.lit0 (M0 M : Store) (a : Option Addr) (h : ∀ x, a = some x → x.spot = none) : N M0 M (.slice a 0 0) [] := ⟨by simp, .inl ⟨rfl, a, rfl, h⟩⟩

theorem e_lit5s (z : Value) (a b c d e : Option Addr) (n1 c1 n2 c2 n3 c3 n4 c4 n5 c5 : Nat) (K : List Value → Prop) : OP (bldL z 1 5 [(0, .slice a n1 c1), (1, .slice b n2 c2), (2, .slice c n3 c3), (3, .slice d n4 c4), (4, .slice e n5 c5)]) K = K [.slice a n1 c1, .slice b n2 c2, .slice c n3 c3, .slice d n4 c4, .slice e n5 c5] := by kernel_rfl

theorem L3_mid {M0 M : Store} {b8 : Nat} {x0 x9 x10 : Value} {raw bb u : List UInt8} {k : Nat} (hu : Up M0 M) (h0 : M0.n ≤ b8) (o8 : Ob M b8 [.bool false] Ty.bool) (hraw : B M x0 raw) (hb : B M x9 bb) (hu10 : B M x10 u) (hk : k ≤ bb.length)
    (l1 : raw.length ≤ 2 ^ 22) (l2 : bb.length ≤ 2 ^ 22) (l3 : u.length ≤ 2 ^ 22) {Q : Value → Store → Prop} (hQ : ∀ M', Up M0 M' → Q (.bool true) M') :
    P_fettlelaw3_FramTells_1 [] x0 (.pointer (some ⟨b8, 0, none⟩)) x9 x10 (.int .i64 (k : Int)) M Q := by
  apply T_fettlelaw3_FramTells_1
  unfold S_fettlelaw3_FramTells_1
  obtain ⟨w3, e3, hw3⟩ := By.cut hb (lo := none) (hi := some (.int .i64 (k : Int))) (a := 0) (r := k) (abound_nat hk) rfl hk (Nat.zero_le _)
  rw [List.drop_zero] at hw3
  rw [e3, OP_some, e_lit0, LT_eq]
  have u1 := Up.push M (some (.inl (([] : List Value), Ty.uint8, true)))
  generalize M.push (some (.inl (([] : List Value), Ty.uint8, true))) = M1 at *
  obtain ⟨v2, M2, e2, hu2, h2, _, _, hc2⟩ := NB.app (Ch.refl [] M1) (N.lit0 M1 M1 (some ⟨M.n, 0, none⟩) fun x hx => by injection hx with hx; subst hx; rfl) (Sl.up hb u1) (by simp; omega)
  rw [e2, OP2_some]
  have hc2' : Up M1 M2 := hc2
  refine ⟨hc2'.tdj _ _, ?_⟩
  rw [List.nil_append] at h2
  have uM2 := u1.trans hu2
  obtain ⟨v3, M3, e4, hu3, h3, _, _, hc3⟩ := NB.app hu2 h2 (Sl.up hraw uM2) (by omega)
  rw [e4, OP2_some]
  refine ⟨tdj_app hc3 (j := 8) (by simp) fun b hb => ?_, ?_⟩
  · obtain ⟨g1, g2, g3⟩ := Nw.kil_in h2 hb
    exact ⟨g3, g1, g2⟩
  obtain ⟨a0, c0, rfl⟩ := hraw.slice
  obtain ⟨a1, c1, rfl⟩ := hb.slice
  obtain ⟨a2, c2, rfl⟩ := hu10.slice
  obtain ⟨a3, c3, rfl⟩ := hw3.slice
  obtain ⟨a4, c4, rfl⟩ := h3.sl.slice
  rw [e_lit5s, LT_eq, e_lenV]
  have uM3 : Up M M3 := u1.trans hu3
  have u4 := Up.push M3 (some (.inl ([Value.slice a0 raw.length c0, .slice a1 bb.length c1, .slice a2 u.length c2, .slice a3 (bb.take k).length c3, .slice a4 (bb ++ raw).length c4], Ty.sl_uint8, true)))
  have hBB : BB (M3.push (some (.inl ([Value.slice a0 raw.length c0, .slice a1 bb.length c1, .slice a2 u.length c2, .slice a3 (bb.take k).length c3, .slice a4 (bb ++ raw).length c4], Ty.sl_uint8, true)))) (.slice (some ⟨M3.n, 0, none⟩) 5 5) [raw, bb, u, bb.take k, bb ++ raw] := by
    refine ⟨_, (Nw.lit (s := 1) (M0 := M3) (n := 5) (Nat.le_refl _) rfl).sl, ?_, ?_, ?_, ?_, ?_, trivial⟩
    · exact Sl.up (Sl.up hraw uM3) u4
    · exact Sl.up (Sl.up hb uM3) u4
    · exact Sl.up (Sl.up hu10 uM3) u4
    · exact Sl.up (Sl.up hw3 uM3) u4
    · exact Sl.up h3.by u4
  refine L3_loop (M0 := M0) (xs := [raw, bb, u, bb.take k, bb ++ raw]) ?_ h0 (by simp) hQ 5 0 [] _ rfl (hu.trans (uM3.trans u4)) (o8.up (uM3.trans u4)) hBB (Dfs.nil _ _)
  intro x hx
  simp only [List.mem_cons, List.not_mem_nil, or_false] at hx
  rcases hx with rfl | rfl | rfl | rfl | rfl <;> simp <;> omega

theorem FramTells_ok {M : Store} {raw rows : Value} {l : List UInt8} {ll : List (List UInt8)} (hraw : B M raw l) (hrows : BB M rows ll) {n : Int} (n1 : -9223372036854775808 ≤ n) (n2 : n ≤ 9223372036854775807) (y : UInt8)
    (l1 : l.length ≤ 2 ^ 21) (l2 : ll.length ≤ 2 ^ 21) (l3 : total ll ≤ 2 ^ 21) : R F.fettlelaw3_FramTells #[raw, rows, .int .i64 n, bv y] M fun v M' => v = .bool true := by
  refine R.cps fun Q hQ => ?_
  apply T_fettlelaw3_FramTells
  unfold S_fettlelaw3_FramTells
  rw [LT_eq]
  have o8 := Ob.new M [.bool false] Ty.bool
  have u1 := Up.push M (some (.inl ([.bool false], Ty.bool, true)))
  generalize M.push (some (.inl ([.bool false], Ty.bool, true))) = M1 at *
  have hend : R F.fettlelaw3_awake #[] M1 fun t31 M2 => OP (st 1 (.pointer (some ⟨M.n, 0, none⟩)) t31 M2) fun M3 => OP (atake [] M3) fun M4 => OP (ld 1 false (.pointer (some ⟨M.n, 0, none⟩)) M4) fun r8 => NTs [r8] ∧ Q r8 M4 := by
    refine (awake3_ok M1).mono fun v M2 ⟨hu2, hv⟩ => ?_
    subst hv
    have o82 := o8.up hu2
    rw [o82.st (o := 0) (by simp) rfl rfl, OP_some]
    have ha : ∀ X : Store, atake [] X = some X := fun _ => rfl
    rw [ha, OP_some, (o82.setSt _).ld (o := 0) rfl, OP_some]
    exact ⟨rfl, hQ _ _ rfl⟩
  rw [hraw.lenV, OP_some, e_gtr, BR_dec]
  split
  · exact hend
  rw [hrows.lenV, OP_some, e_gtr, BR_dec]
  split
  · exact hend
  rename_i hr1 hr2
  refine (Frames_ok (hrows.up By.up' u1) (by omega)).mono fun v2 M2 ⟨hu2, h2⟩ => ?_
  have hft : (frames (ll.take 10)).length ≤ 2 ^ 21 + 100 := by
    rw [frames_length]
    have : total (ll.take 10) ≤ total ll := by
      have : total ll = total (ll.take 10) + total (ll.drop 10) := by
        rw [total, total, total, ← List.sum_append, ← List.map_append, List.take_append_drop]
      omega
    have : (ll.take 10).length ≤ 10 := by simp; omega
    omega
  generalize frames (ll.take 10) = bb at *
  have uM2 := u1.trans hu2
  refine (Put_ok h2.by (Sl.up hraw uM2) (by omega) (by omega)).mono fun v3 M3 ⟨hu3, h3⟩ => ?_
  refine ⟨hu3.tdx _ _ _, ?_⟩
  rw [cvBS_ok h3.by, OP_some]
  refine (RPut_ok (Sl.up h2.by hu3) (Sl.up hraw (uM2.trans hu3)) (by omega) (by omega)).mono fun v4 M4 ⟨hu4, h4⟩ => ?_
  refine ⟨hu4.tdj _ _, ?_⟩
  rw [cvBS_ok h4.by, OP_some, str_neq, BR_dec, if_neg (by simp), e_lit0, LT_eq]
  have uM4 : Up M M4 := (uM2.trans hu3).trans hu4
  have hb4 : B M4 v2 bb := Sl.up (Sl.up h2.by hu3) hu4
  refine copy0 hb4 (by omega) fun v5 M5 hu5 h5 => ?_
  have uM5 := uM4.trans hu5
  have hb5 : B M5 v2 bb := Sl.up hb4 hu5
  have o85 : Ob M5 M.n [.bool false] Ty.bool := o8.up (((hu2.trans hu3).trans hu4).trans hu5)
  have fin : ∀ M', Up M M' → Q (.bool true) M' := fun M' _ => hQ _ _ rfl
  rw [h5.sl.lenV, OP_some, e_gtr, BR_dec]
  split
  · rename_i hpos
    obtain ⟨kk, hkk, ek⟩ := e_and16 n n1 n2
    rw [ek, OP_some, OP_some, e_rem _ _ (by omega), OP_some]
    have hlt : kk % bb.length < bb.length := Nat.mod_lt _ (by omega)
    obtain ⟨p, M6, e6, e7, hu6, h6, b, hb, hc6, cells, hob⟩ := N.put hu5 h5 hlt .i64 y
    rw [e6, OP_some, e7, OP_some]
    have uM6 : Up M M6 := uM4.trans hu6
    have hn4 := hu5.n
    have hb6 : B M6 v2 bb := Sl.up hb4 hu6
    have o86 : Ob M6 M.n [.bool false] Ty.bool := o8.up (((hu2.trans hu3).trans hu4).trans hu6)
    exact L3_mid uM6 (Nat.le_refl _) o86 (Sl.up hraw uM6) hb6 h6.by (by omega) (by omega) (by omega) (by rw [List.length_set]; omega) fin
  · exact L3_mid (k := 0) uM5 (Nat.le_refl _) o85 (Sl.up hraw uM5) hb5 h5.by (Nat.zero_le _) (by omega) (by omega) (by omega) fin

end Go.G
