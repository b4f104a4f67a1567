/- Each operation of the abstract machine is one of the model's: fields, elements, what is built, plain operations. -/
import Derived.Test.YtmdbdbjaipcgeaaAbOps2
set_option linter.unusedVariables false
set_option linter.unusedSimpArgs false
namespace Go.Ab
open Go.RowKit

section
variable {P : Program} {μ : Map} {sh : Shp}

theorem valOf_rel {d : TypeDesc} {us vs : List Value} {r : Value} (h : valOf d vs = some r) (hl : LRel (CRel P μ sh) us vs) :
    ∃ cr, valOf d us = some cr ∧ VRel P μ sh cr r := by
  unfold valOf at h ⊢
  split at h
  · rename_i ha
    injection h with h; subst h
    rw [if_pos ha]
    exact ⟨_, rfl, by show LRel _ _ _; simpa using hl⟩
  · rename_i ha
    rw [if_neg ha]
    split at h
    · injection h with h; subst h
      obtain ⟨hn, hl⟩ := hl
      match us, hn with
      | [u], _ => exact ⟨u, rfl, .of_D (.of_C (hl 0 u _ rfl rfl))⟩
    · cases h

theorem afieldAddr_run {t : TypeId} {x cx r : Value} {f : Nat} (h : afieldAddr P t x f = some r) (hx : VRel P μ sh cx x) (w : World) :
    ∃ cr, (Instr.fieldAt t cx f).run P w = .ok cr w ∧ VRel P μ sh cr r := by
  unfold afieldAddr at h
  split at h
  · rename_i fs b o hu
    obtain ⟨a, rfl, ha⟩ := hx.pointer
    cases a <;> first | exact ha.elim | skip
    rename_i a
    obtain ⟨fd, hf, h⟩ := Option.bind_eq_some_iff.1 h
    obtain ⟨s, hs, h⟩ := Option.bind_eq_some_iff.1 h
    split at h
    · cases h
    · rename_i hne
      injection h with h; subst h
      refine ⟨.pointer (some (a.add fd.offset)), ?_, AddrRel.add' ha _⟩
      simp [Instr.fieldAt, run_underlying' hu, hf, Instr.sureAddr, fieldPlace, run_sizeOf' hs, hne]
  · cases h

theorem apart_run {t : TypeId} {cs ccs : Array Value} {o : Nat} {r : Value} (h : apart P t cs o = some r) (hc : LRel (CRel P μ sh) ccs.toList cs.toList) (w : World) :
    ∃ cr, (part t ccs o).run P w = .ok cr w ∧ VRel P μ sh cr r := by
  unfold apart at h
  obtain ⟨d, hd, h⟩ := Option.bind_eq_some_iff.1 h
  obtain ⟨s, hs, h⟩ := Option.bind_eq_some_iff.1 h
  split at h
  · rename_i hle
    have hsz : ccs.size = cs.size := by simpa using hc.1
    have hl : LRel (CRel P μ sh) (ccs.extract o (o + s)).toList (cs.extract o (o + s)).toList := by
      simp only [Array.toList_extract, List.extract_eq_take_drop]
      exact (hc.drop _).take _
    obtain ⟨cr, h1, h2⟩ := valOf_rel h hl
    refine ⟨cr, ?_, h2⟩
    unfold valOf at h1
    split at h1
    · rename_i ha
      injection h1 with h1; subst h1
      simp only [Array.toArray_toList]
      simp [part, run_isAgg' hd, ha, run_sizeOf' hs]
    · rename_i ha
      split at h1
      · rename_i v hv
        injection h1 with h1; subst h1
        have : ccs[o]? = some v := by
          have h0 : (ccs.extract o (o + s)).toList[0]? = some v := by rw [hv]; rfl
          simp only [Array.toList_extract, List.extract_eq_take_drop, List.getElem?_take, List.getElem?_drop] at h0
          split at h0
          · simpa using h0
          · cases h0
        simp [part, run_isAgg' hd, ha, this]
      · cases h1
  · cases h

theorem afield_run {t : TypeId} {x cx r : Value} {f : Nat} (h : afield P t x f = some r) (hx : VRel P μ sh cx x) (w : World) :
    ∃ cr, (Instr.field t cx f).run P w = .ok cr w ∧ VRel P μ sh cr r := by
  unfold afield at h
  split at h
  · rename_i fs cs hu
    obtain ⟨a, rfl, ha⟩ := hx.agg
    obtain ⟨fd, hf, h⟩ := Option.bind_eq_some_iff.1 h
    obtain ⟨cr, h1, h2⟩ := apart_run h ha w
    exact ⟨cr, by simp [Instr.field, run_underlying' hu, hf, asAgg, h1], h2⟩
  · cases h

theorem aindexAddr_run {t : TypeId} {x i cx ci r : Value} (h : aindexAddr P t x i = some r) (hx : VRel P μ sh cx x) (hi : VRel P μ sh ci i) (w : World) :
    ∃ cr, (Instr.indexAt t cx ci).run P w = .ok cr w ∧ VRel P μ sh cr r := by
  unfold aindexAddr at h
  split at h
  · rename_i e a len cap k i hu
    obtain ⟨ac, cc, rfl, hs⟩ := hx.slice
    obtain rfl := hi.int
    obtain ⟨s, hsz, h⟩ := Option.bind_eq_some_iff.1 h
    split at h
    · rename_i hb
      injection h with h; subst h
      obtain ⟨y, rfl, ha, _⟩ := hs.addr (.inl (by omega)) a rfl
      refine ⟨.pointer (some (y.add (i.toNat * s))), ?_, AddrRel.add' ha _⟩
      simp [Instr.indexAt, asIntOf, run_underlying' hu, run_sizeOf' hsz, hb.1, hb.2.1]
    · cases h
  · rename_i len e a k i hu
    obtain ⟨y, rfl, ha⟩ := hx.pointer
    cases y <;> first | exact ha.elim | skip
    rename_i y
    obtain rfl := hi.int
    obtain ⟨s, hsz, h⟩ := Option.bind_eq_some_iff.1 h
    split at h
    · rename_i hb
      injection h with h; subst h
      refine ⟨.pointer (some (y.add (i.toNat * s))), ?_, AddrRel.add' ha _⟩
      simp [Instr.indexAt, asIntOf, run_underlying' hu, run_sizeOf' hsz, hb.1, hb.2.1, Instr.sureAddr]
    · cases h
  · cases h

theorem aindex_run {t : TypeId} {x i cx ci r : Value} (h : aindex P t x i = some r) (hx : VRel P μ sh cx x) (hi : VRel P μ sh ci i) (w : World) :
    ∃ cr, (Instr.index t cx ci).run P w = .ok cr w ∧ VRel P μ sh cr r := by
  unfold aindex at h
  split at h
  · rename_i len e cs k i hu
    obtain ⟨a, rfl, ha⟩ := hx.agg
    obtain rfl := hi.int
    obtain ⟨s, hsz, h⟩ := Option.bind_eq_some_iff.1 h
    split at h
    · rename_i hb
      obtain ⟨cr, h1, h2⟩ := apart_run h ha w
      exact ⟨cr, by simp [Instr.index, asIntOf, run_underlying' hu, run_sizeOf' hsz, hb.1, hb.2, h1], h2⟩
    · cases h
  · rename_i s k i hu
    obtain rfl := hx.string
    obtain rfl := hi.int
    split at h
    · rename_i hb
      obtain ⟨b, hb', h⟩ := Option.bind_eq_some_iff.1 h
      injection h with h; subst h
      exact ⟨_, by simp [Instr.index, asIntOf, run_underlying' hu, hb, hb'], VRel.mkInt _ _⟩
    · cases h
  · cases h

theorem aun_run {op : UnOp} {x cx r : Value} (h : aun op x = some r) (hx : VRel P μ sh cx x) (w : World) :
    (Op.unary op cx).run P w = .ok r w ∧ VRel P μ sh r r := by
  unfold aun at h
  split at h
  · obtain rfl := hx.int
    injection h with h; subst h
    exact ⟨by simp [Op.unary, Op.intArith], VRel.mkInt _ _⟩
  · obtain rfl := hx.bool
    injection h with h; subst h
    exact ⟨by simp [Op.unary], VRel.mkBool _⟩
  · cases h

theorem foldl_set_rel {R : Value → Value → Prop} (off : Nat) : ∀ (us vs : List Value) (k : Nat) (c c' : Array Value), LRel R us vs → LRel R c.toList c'.toList →
    LRel R ((us.zipIdx k).foldl (fun cs (x : Value × Nat) => cs.setIfInBounds (off + x.2) x.1) c).toList ((vs.zipIdx k).foldl (fun cs (x : Value × Nat) => cs.setIfInBounds (off + x.2) x.1) c').toList
  | [], [], _, _, _, _, h => by simpa using h
  | u :: us, v :: vs, k, c, c', h, hc => by
    simp only [List.zipIdx_cons, List.foldl_cons]
    refine foldl_set_rel off us vs (k + 1) _ _ h.tail ?_
    simp only [Array.toList_setIfInBounds]
    exact hc.set h.head _
  | [], _ :: _, _, _, _, h, _ => by simp [LRel] at h
  | _ :: _, [], _, _, _, h, _ => by simp [LRel] at h

theorem fill_rel {ρc ρa : Operand → Value} {place : Nat → Option (Nat × Nat)} : ∀ (ps : List (Nat × Operand)) (c c' r : Array Value), (∀ p ∈ ps, VRel P μ sh (ρc p.2) (ρa p.2)) → (∀ p ∈ ps, (ρa p.2).cells.all (·.oneCell') = true) →
    LRel (CRel P μ sh) c.toList c'.toList → Instr.fill place c' (ps.map fun p => (p.1, ρa p.2)) = some r →
    ∃ cr, Instr.fill place c (ps.map fun p => (p.1, ρc p.2)) = some cr ∧ LRel (CRel P μ sh) cr.toList r.toList
  | [], c, c', r, _, _, hc, h => by simp [Instr.fill] at h; subst h; exact ⟨c, by simp [Instr.fill], hc⟩
  | p :: ps, c, c', r, hv, h1, hc, h => by
    simp only [List.map_cons, Instr.fill] at h ⊢
    cases hp : place p.1 with
    | none => simp [hp] at h
    | some os =>
      obtain ⟨off, size⟩ := os
      simp only [hp] at h ⊢
      have hrel := hv p (by simp)
      have hsz := hrel.cells_size
      have hcs : c.size = c'.size := by simpa using hc.1
      split at h
      · cases h
      · rename_i hne
        rw [if_neg (by rw [hsz, hcs]; exact hne)]
        refine fill_rel ps _ _ r (fun q hq => hv q (by simp [hq])) (fun q hq => h1 q (by simp [hq])) ?_ h
        have e : ∀ (a c : Array Value), (a.zipIdx.foldl (fun cs (c, j) => cs.setIfInBounds (off + j) c) c) = (a.toList.zipIdx 0).foldl (fun cs (x : Value × Nat) => cs.setIfInBounds (off + x.2) x.1) c := fun a c => by
          rw [← Array.foldl_toList, Array.toList_zipIdx]
        rw [e, e]
        exact foldl_set_rel off _ _ 0 c c' (hrel.cells (h1 p (by simp))) hc

theorem mapM_places : ∀ (fs : List Field) (q : List (Nat × Nat)), aplaces P fs = some q → ∀ w, (fs.mapM (m := Sem) fun f => Prod.mk f.offset <$> sizeOf f.type).run P w = .ok q w
  | [], q, h, w => by simp [aplaces] at h; subst h; rfl
  | f :: fs, q, h, w => by
    simp only [aplaces] at h
    obtain ⟨s, hs, h⟩ := Option.bind_eq_some_iff.1 h
    obtain ⟨q', hq, h⟩ := Option.bind_eq_some_iff.1 h
    injection h with h; subst h
    simp [List.mapM_cons, run_sizeOf' hs, mapM_places fs q' hq w]

theorem abuild_run {ρc ρa : Operand → Value} {t : TypeId} {ps : Array (Nat × Operand)} {r : Value} (h : abuild P t (ps.map fun p => (p.1, ρa p.2)) = some r)
    (hv : ∀ p ∈ ps, VRel P μ sh (ρc p.2) (ρa p.2)) (w : World) :
    ∃ cr, (Instr.build t (ps.map fun p => (p.1, ρc p.2))).run P w = .ok cr w ∧ VRel P μ sh cr r := by
  unfold abuild at h
  obtain ⟨z, hz, h⟩ := Option.bind_eq_some_iff.1 h
  split at h
  · rename_i hp
    simp only [Bool.and_eq_true] at hp
    have hp2 : ∀ p ∈ ps.toList, (ρa p.2).cells.all (·.oneCell') = true := by
      intro p hp'
      have := Array.all_eq_true_iff_forall_mem.1 hp.2 (p.1, ρa p.2) (Array.mem_map.2 ⟨p, by simpa using hp', rfl⟩)
      exact this
    have hz' : LRel (CRel P μ sh) z.cells.toList z.cells.toList := plain_cells hp.1
    split at h
    · rename_i fs hu
      obtain ⟨q, hq, h⟩ := Option.bind_eq_some_iff.1 h
      obtain ⟨c, hc, h⟩ := Option.bind_eq_some_iff.1 h
      injection h with h; subst h
      obtain ⟨cr, h1, h2⟩ := fill_rel (ρc := ρc) (ρa := ρa) ps.toList z.cells z.cells c (fun p hp => hv p (by simpa using hp)) hp2 hz' (by simpa using hc)
      refine ⟨.agg cr, ?_, h2⟩
      have hm : (fs.mapM (m := Sem) fun f => Prod.mk f.offset <$> sizeOf f.type).run P w = .ok q.toArray w := by
        rw [Array.mapM_eq_mapM_toList]
        simp [mapM_places _ q hq w]
      have h1' : Instr.fill (fun i => q[i]?) z.cells (List.map (fun p => (p.1, ρc p.2)) ps.toList) = some cr := h1
      simp [Instr.build, run_zeroValue' hz, run_underlying' hu, hm, h1']
    · rename_i n e hu
      obtain ⟨s, hs, h⟩ := Option.bind_eq_some_iff.1 h
      obtain ⟨c, hc, h⟩ := Option.bind_eq_some_iff.1 h
      injection h with h; subst h
      obtain ⟨cr, h1, h2⟩ := fill_rel (ρc := ρc) (ρa := ρa) ps.toList z.cells z.cells c (fun p hp => hv p (by simpa using hp)) hp2 hz' (by simpa using hc)
      exact ⟨.agg cr, by simp [Instr.build, run_zeroValue' hz, run_underlying' hu, run_sizeOf' hs, h1], h2⟩
    · cases h
  · cases h
end

end Go.Ab
