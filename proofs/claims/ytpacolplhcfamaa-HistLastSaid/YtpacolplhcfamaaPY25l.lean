/- HistLast: what was last of a target turns with its own commits alone. -/
import Derived.Test.YtpacolplhcfamaaPY25b
import Derived.Test.YtpacolplhcfamaaPGHl
import Derived.Test.YtpacolplhcfamaaPAW
namespace Go.G
open Go.Ab Go.Proofs Go.RowKit
set_option linter.unusedVariables false
set_option linter.unusedSimpArgs false
set_option maxRecDepth 100000

theorem awake25_ok {M : Store} {Q : Value → Store → Prop} (hQ : Q (tv true) M) : R F.fettlelaw25_awake #[] M Q := R_told (g := yes0) (by kernel_rfl) rfl hQ
theorem bl_cm (p : CP) : bldL (.agg #[(.int .i64 0), (.string ⟨#[]⟩), (.slice none 0 0), (.bool false)]) 4 1 [(0, .agg (ccs p).toArray)] = some (ccs p) := by obtain ⟨⟨a, b, c, d⟩, x, y, z⟩ := p; kernel_rfl
abbrev NCM (M0 M : Store) (v : Value) (ps : List CP) : Prop := NK 4 ccs Ty.api_Commit M0 M v ps
/-- One commit more. -/
theorem app_cm {M0 M : Store} {x6 : Value} {ps : List CP} {p : CP} (hu : Up M0 M) (hN : NCM M0 M x6 ps) (hB : CB M ps) (hp : B M (slT p.2) p.1.2.2.1) (hl : ps.length ≤ 1000) {K : Value → Store → Prop}
    (hK : ∀ v' M', Up M0 M' → NCM M0 M' v' (ps ++ [p]) → CB M' (ps ++ [p]) → Ch (kl x6) M M' → K v' M') :
    OP (bldL (.agg #[(.int .i64 0), (.string ⟨#[]⟩), (.slice none 0 0), (.bool false)]) 4 1 [(0, .agg (ccs p).toArray)]) fun c => LT (.slice (some ⟨M.n, 0, none⟩) 1 1) (M.push (some (.inl (c, Ty.api_Commit, true)))) fun t M1 => OP2 (appV 4 Ty.api_Commit x6 t M1) K := by
  rw [bl_cm, OP_some, LT_eq]
  refine NK.app1 (M0 := M0) (Mb := M0) ccs_len hu (Nat.le_refl _) hu.n hN p rfl (by omega) fun v' M' hu' hN' hc' _ => ?_
  have hk := Nw.keepE hN hc'
  refine hK v' M' hu' hN' (fun q hq => ?_) hc'
  rcases List.mem_append.1 hq with hq | hq
  · exact Sl.keep (hB q hq) (by decide) hk
  · have : q = p := by simpa using hq
    subst this
    exact Sl.keep hp (by decide) hk
section
variable {M0 : Store} {x0 : Value} {ns : List Int} {s : List UInt8} {Q : Value → Store → Prop}
theorem last_loop (h : LV iv Ty.int M0 x0 ns) (hs : s ∈ abT) (hQ : ∀ M, Q (tv true) M) : ∀ (k i : Nat) (x6 x7 : Value) (ok : Bool) (ps : List CP) (M : Store), k + i = 20 → Up M0 M → NCM M0 M x6 ps → CB M ps → ps.length = i → (∀ p ∈ ps, p.1.2.2.1.length ≤ 2 ^ 20 ∧ p.1.2.1 ∈ abT) →
      ok = (lastF s (cms ps)).isSome → (∃ t, B M x7 t ∧ ∀ y, lastF s (cms ps) = some y → t = y) → P_fettlelaw25_HistLast_1 x0 (sv s) x6 x7 (tv ok) (iv (i : Int)) M Q := by
  intro k
  have fin : ∀ (x6 : Value) (ps : List CP) (M : Store), Up M0 M → NCM M0 M x6 ps → CB M ps → ps.length ≤ 20 → (∀ p ∈ ps, p.1.2.2.1.length ≤ 2 ^ 20 ∧ p.1.2.1 ∈ abT) → P_fettlelaw25_HistLast_3 x6 M Q := by
    intro x6 ps M hu hN hB hl hall
    apply T_fettlelaw25_HistLast_3
    unfold S_fettlelaw25_HistLast_3
    refine (Last_ok [122, 122] ⟨hN.sl, hB⟩ (by omega) (fun p hp => by have := (hall p hp).1; omega)).mono fun r M1 ⟨u1, w, t, e, hw, ht⟩ => ?_
    subst e
    have hn : lastF [122, 122] (cms ps) = none := lastF_none fun c hc => by
      obtain ⟨p, hp, rfl⟩ := List.mem_map.1 hc
      have := (hall p hp).2
      intro e
      rw [e] at this
      exact absurd this (by decide)
    rw [hn, (tp2b _ _).1, (tp2b _ _).2, e_not, BR_bool, if_pos (show (!(none : Option (List UInt8)).isSome) = true from rfl)]
    exact awake25_ok ⟨rfl, hQ _⟩
  induction k with
  | zero =>
    intro i x6 x7 ok ps M hi hu hN hB hl hall hok hv
    apply T_fettlelaw25_HistLast_1
    unfold S_fettlelaw25_HistLast_1
    rw [(h.up hu).len, OP_some, lss_n, BR_dec]
    split
    · rw [lss_l 20 20 rfl, BR_dec, if_neg (by omega)]
      exact fin x6 ps M hu hN hB (by omega) hall
    · exact fin x6 ps M hu hN hB (by omega) hall
  | succ k ih =>
    intro i x6 x7 ok ps M hi hu hN hB hl hall hok hv
    apply T_fettlelaw25_HistLast_1
    unfold S_fettlelaw25_HistLast_1
    rw [(h.up hu).len, OP_some, lss_n, BR_dec]
    split
    · rename_i hil
      rw [lss_l 20 20 rfl, BR_dec, if_pos (by omega)]
      apply T_fettlelaw25_HistLast_2
      unfold S_fettlelaw25_HistLast_2
      obtain ⟨p0, e1, e2⟩ := (h.up hu).at hil .i64
      show OP (ixA 1 x0 (.int .i64 (i : Int))) _
      rw [e1, OP_some, e2, OP_some]
      refine (Commit_ok ns[i]).mono fun r M1 ⟨u1, p, e, hp, hpl, hpt⟩ => ?_
      subst e
      refine s_new fun M2 u2 o2 _ => ?_
      refine s_st (vs := ccs p) o2 rfl rfl (ccs_one _) fun M3 c3 o3 _ => ?_
      have u13 : Up M1 M3 := u2.ch c3 (by simp)
      have u03 : Up M M3 := u1.trans u13
      rw [o3.ldA (s := 4) rfl, OP_some]
      refine app_cm (M0 := M0) (hu.trans u03) (Nw.up hN u03) (hB.up u03) (Sl.up hp u13) (by omega) fun v' M4 hu4 hN4 hB4 hc4 => ?_
      have o4 := o3.fr hc4 (fun hm => by
        have := Nw.bx_in hN (mem_kl.1 hm)
        have h1 := u1.n
        omega)
      have hp4 : B M4 (slT p.2) p.1.2.2.1 := hB4 p (by simp)
      have hall' : ∀ q ∈ ps ++ [p], q.1.2.2.1.length ≤ 2 ^ 20 ∧ q.1.2.1 ∈ abT := fun q hq => by
        rcases List.mem_append.1 hq with hq | hq
        · exact hall q hq
        · have : q = p := by simpa using hq
          subst this; exact ⟨hpl, hpt⟩
      have hcms : cms (ps ++ [p]) = cms ps ++ [p.1] := by unfold cms; rw [List.map_append]; rfl
      have hlast : lastF s (cms (ps ++ [p])) = lastS s (lastF s (cms ps)) p.1 := by rw [hcms, lastF_snoc]
      have p4 : ∀ (x7' : Value) (ok' : Bool), ok' = (lastF s (cms (ps ++ [p]))).isSome → (∃ t, B M4 x7' t ∧ ∀ y, lastF s (cms (ps ++ [p])) = some y → t = y) → P_fettlelaw25_HistLast_4 x0 (sv s) v' x7' (tv ok') (iv (i : Int)) M4 Q := by
        intro x7' ok' hok' hv'
        apply T_fettlelaw25_HistLast_4
        unfold S_fettlelaw25_HistLast_4
        refine (Last_ok s ⟨hN4.sl, hB4⟩ (by simp; omega) (fun q hq => by have := (hall' q hq).1; omega)).mono fun r M5 ⟨u5, w, t, e, hw, ht⟩ => ?_
        subst e
        rw [(tp2b _ _).1, (tp2b _ _).2, ← hok']
        show OP (abin Try.prog false .neq Ty.bool (tv ok') (tv ok')) _
        rw [bool_ne', BR_bool, if_neg (by simp)]
        have next : P_fettlelaw25_HistLast_5 x0 (sv s) v' x7' (tv ok') (iv (i : Int)) M5 Q := by
          apply T_fettlelaw25_HistLast_5
          unfold S_fettlelaw25_HistLast_5
          rw [add1_n _ (by omega)]
          obtain ⟨t', ht', hy⟩ := hv'
          exact ih (i + 1) v' x7' ok' (ps ++ [p]) M5 (by omega) (hu4.trans u5) (Nw.up hN4 u5) (hB4.up u5) (by simp [hl]) hall' hok' ⟨t', Sl.up ht' u5, hy⟩
        cases hok'' : ok' with
        | false =>
          rw [hok''] at next
          rw [BR3_f]
          exact next
        | true =>
          rw [hok''] at next hok'
          rw [BR3_t]
          obtain ⟨t', ht', hy⟩ := hv'
          cases hsome : lastF s (cms (ps ++ [p])) with
          | none => rw [hsome] at hok'; cases hok'
          | some y =>
            have e1 := hy y hsome
            have e2 := ht y hsome
            subst e1; subst e2
            rw [cvBS_ok hw, OP_some, cvBS_ok (Sl.up ht' u5), OP_some]
            show OP (binS .neq (sv _) (sv _)) _
            rw [sv_ne, BR_dec, if_neg (by simp)]
            exact next
      obtain ⟨⟨who, tg, by_, dr⟩, pa⟩ := p
      have o4 : Ob M4 M1.n [iv who, sv tg, slT pa, tv dr] Ty.api_Commit := o4
      simp only [fad0, o4.l4]
      rw [sv_eq, BR_dec]
      unfold lastS at hlast
      simp only at hlast
      split
      · rename_i ht
        rw [if_pos ht] at hlast
        show OP (aun .not (.bool dr)) _
        rw [e_not]
        refine p4 _ _ ?_ ⟨_, hp4, fun y hy => ?_⟩
        · rw [hlast]; cases dr <;> rfl
        · rw [hlast] at hy
          split at hy
          · cases hy
          · injection hy
      · rename_i ht
        rw [if_neg ht] at hlast
        refine p4 _ _ (by rw [hlast]; exact hok) ?_
        obtain ⟨t', ht', hy⟩ := hv
        refine ⟨t', ?_, by rw [hlast]; exact hy⟩
        exact Sl.keep (Sl.up ht' u03) (by decide) (Nw.keepE (Nw.up hN u03) (hc4.mono fun b hb => hb))
    · exact fin x6 ps M hu hN hB (by omega) hall
end
theorem HistLast_ok {M : Store} {x0 : Value} {ns : List Int} {which : Int} (h : LV iv Ty.int M x0 ns) : R F.fettlelaw25_HistLast #[x0, iv which] M fun v M' => v = tv true := by
  refine R.cps fun Q hQ => ?_
  have hQ : ∀ M, Q (tv true) M := fun M => hQ _ _ rfl
  apply T_fettlelaw25_HistLast
  unfold S_fettlelaw25_HistLast
  rw [bl_s2, OP_some]
  refine s_lit (s := 1) (n := 2) rfl fun M1 u1 g1 _ _ => ?_
  have g1 : LV sv Ty.string M1 (.slice (some ⟨M.n, 0, none⟩) 2 2) abT := g1.sl
  show OP (binI .and (.int .i64 which) (.int .i64 ((1 : Nat) : Int))) _
  rw [e_andN which 1 (by decide), OP_some]
  have hj : andN which 1 < abT.length := by have := andN_le which 1 (by decide); show _ < 2; omega
  obtain ⟨p, e1, e2⟩ := g1.at hj .i64
  rw [e1, OP_some, e2, OP_some]
  exact last_loop (M0 := M1) (h.up u1) (List.getElem_mem hj) hQ 20 0 _ _ false [] M1 rfl (Ch.refl _ _) NK.nil (fun p hp => by cases hp) rfl (fun p hp => by cases hp) rfl ⟨[], Sl.nil _ _ _, fun y hy => by cases hy⟩
end Go.G
