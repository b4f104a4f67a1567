/- The abstract machine's operations are the model's: the theorem. -/
import Derived.Test.YtmdbdbjaipcgeaaAbOpAll
set_option linter.unusedVariables false
set_option linter.unusedSimpArgs false
namespace Go.Ab
open Go.RowKit

theorem B_of_V {P : Program} {μ : Map} {sh : Shp} {u v : Value} (h : VRel P μ sh u v) (hb : basicV v = true) : BRel P μ sh u v := by
  refine B_of_C (h.C ?_) ?_ ?_
  · cases v <;> first | rfl | (simp [basicV] at hb)
  · rintro f a c rfl; simp [basicV] at hb
  · rintro t x rfl; simp [basicV] at hb
theorem LRel_B {P : Program} {μ : Map} {sh : Shp} {us vs : List Value} (h : LRel (VRel P μ sh) us vs) (hb : ∀ v ∈ vs, basicV v = true) : LRel (BRel P μ sh) us vs :=
  ⟨h.1, fun i u v hu hv => B_of_V (h.2 i u v hu hv) (hb v (List.mem_of_getElem? hv))⟩

set_option maxHeartbeats 1000000 in
theorem aop_run {P : Program} {μ : Map} {M M' : Store} {w : World} (hR : Rel P μ M w) {a : AAct} {ca : Act} {o : Oper} (hc : ∀ x ∈ o.op.operands.toList, VRel P μ w.shape? (ca.eval x) (a.eval x))
    {r : Sum Value (Bool × Nat × Array Value)} (h : aop P a.eval o.op M = some (r, M')) : NRel P μ M w r M' o ca := by
  obtain ⟨dst, op, type, pos, after, guard⟩ := o
  have ev : ∀ x, VRel P μ w.shape? (ca.eval x) (a.eval x) → VRel P μ w.shape? (ca.eval x) (a.eval x) := fun _ h => h
  simp only [] at hc h
  have pv : ∀ {cv v : Value}, (execOp ca.eval ⟨dst, op, type, pos, after, guard⟩).run P w = .ok (.value cv) w → VRel P μ w.shape? cv v → NRel P μ M w (.inl v) M ⟨dst, op, type, pos, after, guard⟩ ca :=
    fun h1 h2 => ⟨_, w, .inl h1, .pure hR h2⟩
  have pu : ∀ {M1 : Store} {w' : World}, (execOp ca.eval ⟨dst, op, type, pos, after, guard⟩).run P w = .ok .skip w' → Rel P μ M1 w' → Step μ M w μ M1 w' → NRel P μ M w (.inl undef) M1 ⟨dst, op, type, pos, after, guard⟩ ca :=
    fun h1 h2 h3 => ⟨undef, _, .inr ⟨h1, rfl⟩, μ, h2, h3, VRel.undef⟩
  have pm : ∀ {cv v : Value} {M1 : Store} {w' : World}, (execOp ca.eval ⟨dst, op, type, pos, after, guard⟩).run P w = .ok (.value cv) w' → Made P μ M w v M1 cv w' → NRel P μ M w (.inl v) M1 ⟨dst, op, type, pos, after, guard⟩ ca :=
    fun h1 h2 => ⟨_, _, .inl h1, h2⟩
  cases op <;> simp only [aop] at h <;> first | (cases h; done) | skip
  case move x => injection h with h; injection h with h h'; subst h; subst h'; exact pv rfl (ev x (hc x (by simp [Op.operands])))
  case assign x => injection h with h; injection h with h h'; subst h; subst h'; exact pv rfl (ev x (hc x (by simp [Op.operands])))
  case pick c x y =>
    have h1 := ev c (hc c (by simp [Op.operands]))
    have h2 := ev x (hc x (by simp [Op.operands]))
    have h3 := ev y (hc y (by simp [Op.operands]))
    split at h
    · rename_i t ht
      rw [ht] at h1
      injection h with h; injection h with h h'; subst h; subst h'
      refine pv (cv := if t then ca.eval x else ca.eval y) (by simp [execOp, h1.bool, asBool]) ?_
      cases t <;> assumption
    · cases h
  case alloc t =>
    obtain ⟨⟨v, M1⟩, h1, h⟩ := bind_some h
    injection h with h h'; subst h; subst h'
    obtain ⟨cr, w', h2, h3⟩ := aalloc_run hR h1
    exact pm (by simp [execOp, h2]) h3
  case box t x =>
    obtain ⟨⟨v, M1⟩, h1, h⟩ := bind_some h
    injection h with h h'; subst h; subst h'
    obtain ⟨cr, w', h2, h3⟩ := abox_run hR h1 (ev x (hc x (by simp [Op.operands])))
    exact pm (by simp [execOp, h2]) h3
  case build t ps =>
    obtain ⟨v, h1, h⟩ := bind_some h
    injection h with h h'; subst h; subst h'
    obtain ⟨cr, h2, h3⟩ := abuild_run (ρc := ca.eval) (ρa := a.eval) h1 (fun p hp => ev p.2 (hc p.2 (by simp [Op.operands]; exact ⟨p.1, hp⟩))) w
    exact pv (by simp [execOp, h2]) h3
  case buildSlice t n ps =>
    obtain ⟨⟨v, M1⟩, h1, h⟩ := bind_some h
    injection h with h h'; subst h; subst h'
    obtain ⟨cr, w', h2, h3⟩ := abuildSlice_run hR (ρc := ca.eval) (ρa := a.eval) h1 (fun p hp => ev p.2 (hc p.2 (by simp [Op.operands]; exact ⟨p.1, hp⟩)))
    exact pm (by simp [execOp, h2]) h3
  case load t x =>
    obtain ⟨v, h1, h⟩ := bind_some h
    injection h with h h'; subst h; subst h'
    obtain ⟨cr, h2, h3⟩ := aload_run hR h1 (ev x (hc x (by simp [Op.operands])))
    exact pv (by simp [execOp, h2]) h3
  case store t x y =>
    obtain ⟨M1, h1, h⟩ := bind_some h
    injection h with h h'; subst h; subst h'
    obtain ⟨w', h2, h3, h4⟩ := astore_run hR h1 (ev x (hc x (by simp [Op.operands]))) (ev y (hc y (by simp [Op.operands])))
    exact pu (by simp [execOp, h2]) h3 h4
  case nilCheck x =>
    have h1 := ev x (hc x (by simp [Op.operands]))
    split at h
    · rename_i q hq
      rw [hq] at h1
      injection h with h; injection h with h h'; subst h; subst h'
      obtain ⟨y, hy, hy2⟩ := h1.pointer
      cases y <;> first | exact hy2.elim | skip
      exact pv (by simp [execOp, hy]) (show VRel P μ w.shape? (.pointer (some _)) (.pointer (some _)) from hy2)
    · cases h
  case binOp op t x y yt =>
    obtain ⟨v, h1, h⟩ := bind_some h
    injection h with h h'; subst h; subst h'
    have hx := ev x (hc x (by simp [Op.operands]))
    have hy := ev y (hc y (by simp [Op.operands]))
    have h2 := eqGuard_run h1 hx hy w
    obtain ⟨h3, h4⟩ := abin_run h1 hx hy w
    exact pv (by simp [execOp, h2, h3]) h4
  case unOp op t x =>
    obtain ⟨v, h1, h⟩ := bind_some h
    injection h with h h'; subst h; subst h'
    obtain ⟨h3, h4⟩ := aun_run h1 (ev x (hc x (by simp [Op.operands]))) w
    exact pv (by simp [execOp, h3]) h4
  case convert s d x =>
    obtain ⟨⟨v, M1⟩, h1, h⟩ := bind_some h
    injection h with h h'; subst h; subst h'
    obtain ⟨cr, w', h2, h3⟩ := aconvert_run hR h1 (ev x (hc x (by simp [Op.operands])))
    exact pm (by simp [execOp, h2]) h3
  case makeInterface t x =>
    have h1 := ev x (hc x (by simp [Op.operands]))
    split at h
    · cases h
    · rename_i d hd hni
      split at h
      · rename_i hb
        injection h with h; injection h with h h'; subst h; subst h'
        refine pv (cv := .iface t (ca.eval x)) ?_ ⟨rfl, B_of_V h1 hb⟩
        have : (Instr.makeInterface t (ca.eval x)).run P w = .ok (.iface t (ca.eval x)) w := by
          simp only [Instr.makeInterface, Sem.run_bind, run_underlying' hni, Result.andThen_ok]
          cases d <;> first | rfl | exact absurd hni (hd _)
        simp [execOp, this]
      · cases h
    · cases h
  case makeFunc fn first captured =>
    split at h
    · rename_i hb
      simp only [Bool.and_eq_true] at hb
      injection h with h; injection h with h h'; subst h; subst h'
      refine pv (cv := .func fn (first.map ca.eval) (captured.map ca.eval)) (by simp [execOp, Instr.makeFunc]) ⟨(by cases fn <;> first | rfl | (simp [notYield] at hb)), ?_, ?_⟩
      · exact LRel_B (map_rel fun y hy => ev y (hc y (by simp [Op.operands]; exact .inl (by simpa using hy)))) fun v hv => Array.all_eq_true_iff_forall_mem.1 hb.2.1 v (by simpa using hv)
      · exact LRel_B (map_rel fun y hy => ev y (hc y (by simp [Op.operands]; exact .inr (by simpa using hy)))) fun v hv => Array.all_eq_true_iff_forall_mem.1 hb.2.2 v (by simpa using hv)
    · cases h
  case makeMap t rs =>
    split at h
    · rename_i kt e hu
      injection h with h; injection h with h h'; subst h; subst h'
      have hN := newB_alloc w (.map #[] 0)
      obtain ⟨h1, h2⟩ := rel_new hR hN (some (.inr (.inl []))) ⟨rfl, #[], 0, heap_alloc_new w _, rfl, fun i x kv hx => by simp at hx⟩
      refine pm (cv := .map (some w.heap.size)) (w' := w.alloc (.map #[] 0)) (by simp [execOp, Instr.makeMap]) ⟨_, h1, h2, ?_⟩
      exact ⟨_, upd_eq _ _ _, rfl⟩
    · cases h
  case makeSlice t l c =>
    obtain ⟨⟨v, M1⟩, h1, h⟩ := bind_some h
    injection h with h h'; subst h; subst h'
    obtain ⟨cr, w', h2, h3⟩ := amakeSlice_run hR h1 (ev l (hc l (by simp [Op.operands]))) (ev c (hc c (by simp [Op.operands])))
    exact pm (by simp [execOp, h2]) h3
  case slice t x lo hi mx =>
    obtain ⟨v, h1, h⟩ := bind_some h
    injection h with h h'; subst h; subst h'
    obtain ⟨cr, h2, h3⟩ := aslice_run hR h1 (ev x (hc x (by simp [Op.operands])))
      (opt_rel (x := lo) fun y hy => ev y (hc y (by simp [Op.operands, hy]))) (opt_rel (x := hi) fun y hy => ev y (hc y (by simp [Op.operands, hy]))) (opt_rel (x := mx) fun y hy => ev y (hc y (by simp [Op.operands, hy])))
    have h4 : (Instr.sliceAt t (ca.eval x) (lo.map ca.eval) (hi.map ca.eval) (mx.map ca.eval)).run P w = .ok cr w := by
      have hu : ∃ d, P.underlying t = some d ∧ (∀ n e, d ≠ .array n e) := by
        unfold aslice at h1
        split at h1
        · rename_i hu _; exact ⟨_, hu, fun n e => by simp⟩
        · rename_i hu _; exact ⟨_, hu, fun n e => by simp⟩
        · cases h1
      obtain ⟨d, hd, hna⟩ := hu
      simp only [Instr.sliceAt, Sem.run_bind, run_underlying' hd, Result.andThen_ok]
      cases d <;> first | exact h2 | exact absurd rfl (hna _ _)
    exact pv (by simp [execOp, h4]) h3
  case fieldAddr t x f =>
    obtain ⟨v, h1, h⟩ := bind_some h
    injection h with h h'; subst h; subst h'
    obtain ⟨cr, h2, h3⟩ := afieldAddr_run h1 (ev x (hc x (by simp [Op.operands]))) w
    exact pv (by simp [execOp, h2]) h3
  case field t x f =>
    obtain ⟨v, h1, h⟩ := bind_some h
    injection h with h h'; subst h; subst h'
    obtain ⟨cr, h2, h3⟩ := afield_run h1 (ev x (hc x (by simp [Op.operands]))) w
    exact pv (by simp [execOp, h2]) h3
  case indexAddr t x i =>
    obtain ⟨v, h1, h⟩ := bind_some h
    injection h with h h'; subst h; subst h'
    obtain ⟨cr, h2, h3⟩ := aindexAddr_run h1 (ev x (hc x (by simp [Op.operands]))) (ev i (hc i (by simp [Op.operands]))) w
    exact pv (by simp [execOp, h2]) h3
  case index t x i =>
    obtain ⟨v, h1, h⟩ := bind_some h
    injection h with h h'; subst h; subst h'
    obtain ⟨cr, h2, h3⟩ := aindex_run h1 (ev x (hc x (by simp [Op.operands]))) (ev i (hc i (by simp [Op.operands]))) w
    exact pv (by simp [execOp, h2]) h3
  case lookup t x k ok =>
    obtain ⟨v, h1, h⟩ := bind_some h
    injection h with h h'; subst h; subst h'
    obtain ⟨cr, h2, h3⟩ := alookup_run hR h1 (ev x (hc x (by simp [Op.operands]))) (ev k (hc k (by simp [Op.operands])))
    exact pv (by simp [execOp, h2]) h3
  case mapUpdate t m k x =>
    obtain ⟨M1, h1, h⟩ := bind_some h
    injection h with h h'; subst h; subst h'
    obtain ⟨w', h2, h3, h4⟩ := amapUpdate_run hR h1 (ev m (hc m (by simp [Op.operands]))) (ev k (hc k (by simp [Op.operands]))) (ev x (hc x (by simp [Op.operands])))
    exact pu (by simp [execOp, h2]) h3 h4
  case extract t i =>
    have h1 := ev t (hc t (by simp [Op.operands]))
    split at h
    · rename_i vs hq
      rw [hq] at h1
      obtain ⟨v, h2, h⟩ := bind_some h
      injection h with h h'; subst h; subst h'
      obtain ⟨cs, hcs, hl⟩ := h1.tuple
      obtain ⟨u, hu, hr⟩ := hl.get (i := i) (v := v) (by simpa using h2)
      have hu' : cs[i]? = some u := by simpa using hu
      exact pv (cv := u) (by simp [execOp, Instr.extract, hcs, hu']) (.of_D hr)
    · cases h
  case call c =>
    obtain ⟨callee, args, argTypes⟩ := c
    have hargs : LRel (VRel P μ w.shape?) (args.map ca.eval).toList (args.map a.eval).toList := map_rel fun y hy => ev y (hc y (by simp [Op.operands, Call.operands]; exact .inr (by simpa using hy)))
    cases callee with
    | builtin b =>
      simp only [] at h
      obtain ⟨⟨v, M1⟩, h1, h⟩ := bind_some h
      injection h with h h'; subst h; subst h'
      obtain ⟨cr, w', h2, h3⟩ := abuiltin_run hR (ty := type) h1 hargs
      exact pm (by simp only [execOp, resolve, Sem.run_bind, Sem.run_pure, Result.andThen_ok, invoke, h2]) h3
    | value f =>
      simp only [] at h
      have hf := ev f (hc f (by simp [Op.operands, Call.operands]))
      split at h
      · rename_i g first captured hq
        rw [hq] at hf
        obtain ⟨fg, cf, cc, hcf, h0, h1, h2⟩ := hf.func
        obtain rfl : fg = .func g := by cases fg <;> first | exact h0.elim | (obtain rfl : _ = _ := h0; rfl) | exact h0
        injection h with h; injection h with h h'; subst h; subst h'
        refine ⟨rfl, cf ++ args.map ca.eval ++ cc, ?_, ?_⟩
        · simp only [execOp, resolve, hcf, Deferred.ofValue, Sem.run_bind, Sem.run_pure, Result.andThen_ok, invoke]
        · simp only [Array.toList_append]
          exact ((h1.mono fun _ _ => VRel.of_B).append hargs).append (h2.mono fun _ _ => VRel.of_B)
      · rename_i l first captured hq
        rw [hq] at hf
        obtain ⟨fg, cf, cc, hcf, h0, h1, h2⟩ := hf.func
        obtain ⟨l', k, rfl, hk, rfl⟩ : ∃ l' k, fg = .yield l' ∧ μ l = some k ∧ k.b = l' := by
          cases fg <;> first | exact h0.elim | (obtain ⟨k, hk, hl⟩ := h0; exact ⟨_, k, rfl, hk, hl⟩) | (cases h0)
        injection h with h; injection h with h h'; subst h; subst h'
        refine ⟨rfl, k, cf ++ args.map ca.eval, hk, ?_, ?_⟩
        · simp only [execOp, resolve, hcf, Deferred.ofValue, Sem.run_bind, Sem.run_pure, Result.andThen_ok, invoke]
        · simp only [Array.toList_append]
          exact (h1.mono fun _ _ => VRel.of_B).append hargs
      · cases h
    | invoke r m => cases h

end Go.Ab
