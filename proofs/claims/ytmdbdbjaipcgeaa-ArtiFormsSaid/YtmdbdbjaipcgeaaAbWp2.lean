/- The proposition made along one operation suffices. -/
import Derived.Test.YtmdbdbjaipcgeaaAbWp
set_option linter.unusedVariables false
set_option linter.unusedSimpArgs false
namespace Go.Ab

theorem kop_sound {P : Program} {E : Ext} {ρ : Operand → Value} {o : Op} {M : Store} {K : Value → Store → Prop} (h : kop P E ρ o M K) : OpRuns P E ρ o M K := by
  cases o <;> try (exact h.elim)
  case move x => exact .inl ⟨_, _, rfl, h⟩
  case assign x => exact .inl ⟨_, _, rfl, h⟩
  case pick c a b =>
    simp only [kop] at h
    unfold BR at h
    split at h
    · rename_i hc; exact .inl ⟨_, M, by simp only [aop, hc, if_true], h⟩
    · rename_i hc; exact .inl ⟨_, M, by simp only [aop, hc]; rfl, h⟩
    · exact h.elim
  case alloc t =>
    simp only [kop] at h
    split at h
    · rename_i z hz
      cases hp : z.cells.all plainV with
      | false => rw [hp] at h; exact h.elim
      | true => rw [hp] at h; exact .inl ⟨_, _, by simp only [aop, aalloc, hz, Option.bind_some, hp, if_true], h⟩
    · exact h.elim
  case box t x =>
    simp only [kop] at h
    obtain ⟨v, h1, h2⟩ := OP_iff.1 h
    unfold boxv at h1
    split at h1
    · rename_i hp; injection h1 with h1; subst h1; exact .inl ⟨_, _, by simp only [aop, abox, hp, if_true, Option.bind_some], h2⟩
    · cases h1
  case build t ps =>
    have hall : (ps.map fun (p : Nat × Operand) => (p.1, ρ p.2)).toList = ps.toList.map fun p => (p.1, ρ p.2) := by rw [Array.toList_map]
    have hal : ∀ f : Nat × Value → Bool, (ps.map fun (p : Nat × Operand) => (p.1, ρ p.2)).all f = (ps.toList.map fun p => (p.1, ρ p.2)).all f := fun f => by rw [← hall, Array.all_toList]
    simp only [kop] at h
    split at h
    · rename_i fs z hu hz
      split at h
      · rename_i q hq
        cases hp : z.cells.all plainV with
        | false => rw [hp] at h; exact h.elim
        | true =>
          rw [hp] at h
          refine .val h fun v hv => ?_
          unfold bldS at hv
          split at hv
          · rename_i hp2
            simp only [aop, abuild, hz, Option.bind_some, hp, Bool.true_and]
            rw [if_pos (by rw [hal]; exact hp2)]
            simp only [hu, hq, Option.bind_some, hall]
            cases hf : Instr.fill (q[·]?) z.cells (ps.toList.map fun p => (p.1, ρ p.2)) with
            | none => rw [hf] at hv; cases hv
            | some c => rw [hf] at hv; simp only [Option.map_some, Option.some.injEq] at hv; subst hv; rfl
          · cases hv
      · exact h.elim
    · rename_i n e z hu hz
      split at h
      · rename_i s hs
        cases hp : z.cells.all plainV with
        | false => rw [hp] at h; exact h.elim
        | true =>
          rw [hp] at h
          refine .val h fun v hv => ?_
          unfold bldA at hv
          split at hv
          · rename_i hp2
            simp only [aop, abuild, hz, Option.bind_some, hp, Bool.true_and]
            rw [if_pos (by rw [hal]; exact hp2)]
            simp only [hu, hs, Option.bind_some, hall]
            cases hf : Instr.fill (fun i => some (i * s, s)) z.cells (ps.toList.map fun p => (p.1, ρ p.2)) with
            | none => rw [hf] at hv; cases hv
            | some c => rw [hf] at hv; simp only [Option.map_some, Option.some.injEq] at hv; subst hv; rfl
          · cases hv
      · exact h.elim
    · exact h.elim
  case buildSlice t n ps =>
    have hall : (ps.map fun (p : Nat × Operand) => (p.1, ρ p.2)).toList = ps.toList.map fun p => (p.1, ρ p.2) := by rw [Array.toList_map]
    have hal : ∀ f : Nat × Value → Bool, (ps.map fun (p : Nat × Operand) => (p.1, ρ p.2)).all f = (ps.toList.map fun p => (p.1, ρ p.2)).all f := fun f => by rw [← hall, Array.all_toList]
    simp only [kop] at h
    split at h
    · rename_i e hu
      split at h
      · rename_i s z hs hz
        cases hp : (decide (n * s ≤ 2 ^ 24) && (decide (0 < s) && z.cells.all plainV)) with
        | false => rw [hp] at h; exact h.elim
        | true =>
          rw [hp] at h
          obtain ⟨cs, h1, h2⟩ := OP_iff.1 h
          unfold bldL at h1
          split at h1
          · rename_i hp2
            simp only [Bool.and_eq_true, decide_eq_true_eq] at hp
            cases hf : Instr.fill (fun i => some (i * s, s)) (zerosOf z (n * s)) (ps.toList.map fun p => (p.1, ρ p.2)) with
            | none => rw [hf] at h1; cases h1
            | some c =>
              rw [hf] at h1; simp only [Option.map_some, Option.some.injEq] at h1; subst h1
              refine .inl ⟨_, _, ?_, h2⟩
              simp only [aop, abuildSlice, hu, hs, hz, Option.bind_some]
              rw [if_pos (by simp only [Bool.and_eq_true, decide_eq_true_eq]; exact ⟨hp.1, ⟨hp.2.1, hp.2.2⟩, by rw [hal]; exact hp2⟩)]
              simp only [hall, hf, Option.bind_some]
          · cases h1
      · exact h.elim
    · exact h.elim
  case load t a =>
    simp only [kop] at h
    split at h
    · rename_i d s hd hs
      refine .val h fun v hv => ?_
      unfold ld at hv
      split at hv
      · rename_i b o ha
        simp only [aop, aload, ha, hd, hs, Option.bind_some, valOf_eq]
        rw [hv]; rfl
      · cases hv
    · exact h.elim
  case store t a x =>
    simp only [kop] at h
    split at h
    · rename_i s hs
      refine .sto h fun v hv => ?_
      unfold st at hv
      split at hv
      · rename_i b o ha
        split at hv
        · rename_i c e hg
          split at hv
          · rename_i hc
            simp only [aop, astore, ha, hg]
            injection hv with hv; subst hv
            rw [if_pos ⟨by rw [hs, hc.1], hc.2⟩]; rfl
          · cases hv
        · cases hv
      · cases hv
    · exact h.elim
  case nilCheck x =>
    simp only [kop] at h
    refine .val h fun v hv => ?_
    unfold nilc at hv
    split at hv
    · rename_i a ha; injection hv with hv; subst hv; simp only [aop, ha]
    · cases hv
  case binOp op t x y yt =>
    simp only [kop] at h
    split at h
    · exact .val h fun v hv => by simp only [aop, binI_eq hv, Option.bind_some]
    · exact .val h fun v hv => by simp only [aop, binS_eq hv, Option.bind_some]
    · exact .val h fun v hv => by simp only [aop, hv, Option.bind_some]
  case unOp op t x =>
    simp only [kop] at h
    exact .val h fun v hv => by simp only [aop, hv, Option.bind_some]
  case convert s d x =>
    simp only [kop] at h
    split at h
    · rename_i k1 k hs hd
      refine .val h fun v hv => ?_
      unfold cvI at hv
      split at hv
      · rename_i k2 n hx; injection hv with hv; subst hv; simp only [aop, hx, aconvert, hs, hd, Option.bind_some]
      · cases hv
    · rename_i e hs hd
      split at h
      · rename_i he hz
        refine .both h fun r hr => ?_
        unfold cvSB at hr
        split at hr
        · rename_i str hx
          split at hr
          · cases hr
          · rename_i hl
            injection hr with hr; subst hr
            simp only [aop, hx, aconvert, hs, hd, he]
            rw [if_neg (by simp only [Bool.or_eq_true, decide_eq_true_eq, hz]; rintro (h1 | h1); exact hl h1; exact absurd h1 (by decide))]
            rfl
        · cases hr
      · exact h.elim
    · rename_i e hs hd
      split at h
      · rename_i he
        refine .val h fun v hv => ?_
        unfold cvBS at hv
        split at hv
        · rename_i n c hx; injection hv with hv; subst hv; simp only [aop, hx, aconvert, hs, hd, he, Option.bind_some]
        · rename_i b o n c hx
          simp only [aop, hx, aconvert, hs, hd, he]
          split at hv
          · rename_i h0; injection hv with hv; subst hv; simp only [h0, if_true, Option.bind_some]
          · rename_i h0
            obtain ⟨cs, h1, h2⟩ := Option.bind_eq_some_iff.1 hv
            obtain ⟨l, h3, h4⟩ := Option.bind_eq_some_iff.1 h2
            injection h4 with h4; subst h4
            simp only [if_neg h0, h1, h3, Option.bind_some]
        · cases hv
      · exact h.elim
    · rename_i e e' hs hd
      split at h
      · rename_i he
        cases hb : Nat.beq s d with
        | false => rw [hb] at h; exact h.elim
        | true =>
          rw [hb] at h
          refine .both h fun r hr => ?_
          unfold cvId at hr
          split at hr
          · rename_i b o n c hx
            split at hr
            · rename_i cs t' hg
              split at hr
              · rename_i hn
                injection hr with hr; subst hr
                simp only [aop, hx, aconvert, hs, hd, he, hg]
                rw [if_pos ⟨Nat.eq_of_beq_eq_true hb, hn⟩]; rfl
              · cases hr
            · cases hr
          · cases hr
      · exact h.elim
    · exact .both h fun r hr => by simp only [aop, hr, Option.bind_some]
  case makeInterface t x =>
    simp only [kop] at h
    split at h
    · exact h.elim
    · rename_i d hne hd
      refine .val h fun v hv => ?_
      unfold mkI at hv
      split at hv
      · rename_i hb; injection hv with hv; subst hv
        simp only [aop]
        split
        · rename_i hu; rw [hu] at hd; injection hd with hd; exact absurd hd.symm (hne _)
        · rw [if_pos hb]
        · rename_i hu; rw [hu] at hd; cases hd
      · cases hv
    · exact h.elim
  case makeFunc fn first captured =>
    simp only [kop] at h
    refine .val h fun v hv => ?_
    unfold mkF at hv
    split at hv
    · rename_i hb
      injection hv with hv; subst hv
      simp only [aop]
      have e1 : (first.map ρ).all basicV = (first.toList.map ρ).all basicV := by rw [← Array.toList_map, Array.all_toList]
      have e2 : (captured.map ρ).all basicV = (captured.toList.map ρ).all basicV := by rw [← Array.toList_map, Array.all_toList]
      rw [e1, e2, if_pos hb]
      have e3 : (first.toList.map ρ).toArray = first.map ρ := by rw [← Array.toList_map]
      have e4 : (captured.toList.map ρ).toArray = captured.map ρ := by rw [← Array.toList_map]
      rw [e3, e4]
    · cases hv
  case makeMap t r =>
    simp only [kop] at h
    split at h
    · rename_i k e hu; exact .inl ⟨_, _, by simp only [aop, hu], h⟩
    · exact h.elim
  case makeSlice t l c =>
    simp only [kop] at h
    split at h
    · rename_i e hu
      split at h
      · rename_i s y z hs hy hz
        cases hp : (z.cells.all plainV && decide (0 < s)) with
        | false => rw [hp] at h; exact h.elim
        | true =>
          rw [hp] at h
          simp only [Bool.and_eq_true, decide_eq_true_eq] at hp
          refine .both h fun r hr => ?_
          unfold mkS at hr
          split at hr
          · rename_i ln cn hl hc
            split at hr
            · rename_i hb
              injection hr with hr; subst hr
              simp only [aop, amakeSlice, hu, hl, hc, hs, hy, hz, Option.bind_some]
              rw [if_pos ⟨hb.1, hb.2.1, hb.2.2.1, hb.2.2.2, hp.1, hp.2⟩]; rfl
            · cases hr
          · cases hr
      · exact h.elim
    · exact h.elim
  case slice t x lo hi mx =>
    simp only [kop] at h
    split at h
    · rename_i hu
      split at h
      · refine .val h fun v hv => ?_
        unfold slS at hv
        split at hv
        · rename_i str hx
          simp only [aop, aslice, hu, hx, Option.map_none, Option.isSome_none]
          rw [if_neg (by decide), hv]; rfl
        · cases hv
      · exact h.elim
    · rename_i e hu
      split at h
      · rename_i s hs
        split at h
        · refine .val h fun v hv => ?_
          unfold slV at hv
          split at hv
          · rename_i a len cap hx
            simp only [aop, aslice, hu, hx, hs, Option.bind_some, Option.map_none]
            rw [hv]; rfl
          · cases hv
        · rename_i m hh
          refine .val h fun v hv => ?_
          unfold slM at hv
          split at hv
          · rename_i a len cap hx
            simp only [aop, aslice, hu, hx, hs, Option.bind_some, Option.map_some, Option.isNone_some]
            obtain ⟨mm, h1, h2⟩ := Option.bind_eq_some_iff.1 hv
            rw [h1, Option.bind_some, if_neg (by decide), h2]; rfl
          · cases hv
        · exact h.elim
      · exact h.elim
    · exact h.elim
  case fieldAddr t x f =>
    simp only [kop] at h
    split at h
    · rename_i fs hu
      split at h
      · rename_i fd hf
        split at h
        · rename_i s hs
          cases h0 : Nat.beq s 0 with
          | true => rw [h0] at h; exact h.elim
          | false =>
            rw [h0] at h
            refine .val h fun v hv => ?_
            unfold fad at hv
            split at hv
            · rename_i b o hx
              injection hv with hv; subst hv
              simp only [aop, afieldAddr, hu, hx, hf, hs, Option.bind_some]
              rw [if_neg (fun e => by subst e; cases h0)]; rfl
            · cases hv
        · exact h.elim
      · exact h.elim
    · exact h.elim
  case field t x f =>
    simp only [kop] at h
    split at h
    · rename_i fs hu
      split at h
      · rename_i fd hf
        split at h
        · rename_i d s hd hs
          refine .val h fun v hv => ?_
          unfold prt at hv
          split at hv
          · rename_i cs hx
            simp only [aop, afield, hu, hx, hf, apart, hd, hs, Option.bind_some, valOf_eq]
            rw [hv]; rfl
          · cases hv
        · exact h.elim
      · exact h.elim
    · exact h.elim
  case indexAddr t x i =>
    simp only [kop] at h
    split at h
    · rename_i e hu
      split at h
      · rename_i s hs
        refine .val h fun v hv => ?_
        unfold ixA at hv
        split at hv
        · rename_i a len cap k j hx hi
          simp only [aop, aindexAddr, hu, hx, hi, hs, Option.bind_some]
          rw [hv]; rfl
        · cases hv
      · exact h.elim
    · rename_i len e hu
      split at h
      · rename_i s hs
        refine .val h fun v hv => ?_
        unfold ixP at hv
        split at hv
        · rename_i a k j hx hi
          simp only [aop, aindexAddr, hu, hx, hi, hs, Option.bind_some]
          rw [hv]; rfl
        · cases hv
      · exact h.elim
    · exact h.elim
  case index t x i =>
    simp only [kop] at h
    split at h
    · rename_i hu
      refine .val h fun v hv => ?_
      unfold ixS at hv
      split at hv
      · rename_i str k j hx hi
        simp only [aop, aindex, hu, hx, hi]
        rw [hv]; rfl
      · cases hv
    · exact .val h fun v hv => by simp only [aop, hv, Option.bind_some]
  case lookup t x k ok =>
    simp only [kop] at h
    split at h
    · rename_i kt e hu
      split at h
      · rename_i kd z hk hz
        cases hp : z.cells.all plainV with
        | false => rw [hp] at h; exact h.elim
        | true =>
          rw [hp] at h
          refine .val h fun v hv => ?_
          unfold lku at hv
          split at hv
          · cases hv
          · rename_i hkv
            have e1 : alookup P t (ρ x) (ρ k) ok M = some v := by
              unfold alookup
              rw [hu]
              simp only []
              rw [hk, Option.bind_some, if_neg hkv, hz, Option.bind_some, hp, if_neg (by decide)]
              exact hv
            simp only [aop, e1, Option.bind_some]
      · exact h.elim
    · exact h.elim
  case mapUpdate t m k x =>
    simp only [kop] at h
    split at h
    · rename_i kt e hu
      split at h
      · rename_i kd hk
        refine .sto h fun v hv => ?_
        unfold mup at hv
        split at hv
        · rename_i r hm
          have e1 : amapUpdate P t (ρ m) (ρ k) (ρ x) M = some v := by
            unfold amapUpdate
            rw [hu, hm]
            simp only []
            rw [hk, Option.bind_some]
            exact hv
          simp only [aop, e1, Option.bind_some]
        · cases hv
      · exact h.elim
    · exact h.elim
  case extract t i =>
    simp only [kop] at h
    refine .val h fun v hv => ?_
    unfold tup at hv
    split at hv
    · rename_i vs ht; simp only [aop, ht, hv, Option.bind_some]
    · cases hv
  case call c =>
    simp only [kop] at h
    split at h
    · rename_i b hb; exact kbuiltin_sound hb h
    · rename_i f hf
      unfold kcall at h
      split at h
      · rename_i g first captured hv
        obtain ⟨k, v, M', h1, h2⟩ := h
        refine .inr ⟨true, g, first ++ c.args.map ρ ++ captured, M, by simp only [aop, hf, hv], k, v, M', ?_, h2⟩
        have : first ++ c.args.map ρ ++ captured = (first.toList ++ (c.args.toList.map ρ ++ captured.toList)).toArray := by
          rw [← Array.toList_inj]; simp
        rw [this]; exact h1
      · rename_i l first captured hv
        obtain ⟨k, v, M', h1, h2⟩ := h
        refine .inr ⟨false, l, first ++ c.args.map ρ, M, by simp only [aop, hf, hv], k, v, M', ?_, h2⟩
        have : first ++ c.args.map ρ = (first.toList ++ c.args.toList.map ρ).toArray := by
          rw [← Array.toList_inj]; simp
        rw [this]; exact h1
      · exact h.elim
    · exact h.elim

end Go.Ab
