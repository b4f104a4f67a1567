/- From the abstract machine's answer to what a row asks: memory that was there reads as it did, and the answer is true. -/
import Derived.Test.YtmdbdbjaipcgeaaAbSound
import Derived.ProofKit
import Derived.OpenShut
import Derived.JoinedCond
set_option linter.unusedVariables false
set_option linter.unusedSimpArgs false
namespace Go.Ab
open Go.RowKit Go.ChangeShapes Go.WideShapes Go.ChangeAt

theorem trodAll_below {H : Type} {enc : TypeId × Value → H} {P : Program} (hl : laidOutB P = true) {W W' : World} (hb : Below W.heap.size W W') : ∀ (ts : List TypeId) (vs : List Value) (ds : List (DataW H)) (ps : List MemPlace),
    DataW.TrodAll enc P W 0 (fun _ => true) true ts vs ds ps → (ts.all fun t => P.readableRec t && decide (t < P.types.size)) = true → (∀ x ∈ ps, x.block < W.heap.size) →
    DataW.TrodAll enc P W' 0 (fun b => decide (b < W.heap.size)) true ts vs ds ps
  | [], vs, ds, ps, h, _, _ => by
    obtain ⟨rfl, rfl, rfl⟩ := trodAll_nil h
    exact trodAll_mk0
  | t :: ts, vs, ds, ps, h, ht, hp => by
    obtain ⟨v, vs', d, ds', p, q, rfl, rfl, rfl, h1, h2⟩ := trodAll_cons h
    simp only [List.all_cons, Bool.and_eq_true, decide_eq_true_eq] at ht
    exact trodAll_cons_mk (Below.trod hl ht.1.1 ht.1.2 h1 hb fun x hx => hp x (List.mem_append_left _ hx))
      (trodAll_below hl hb ts vs' ds' q h2 ht.2 fun x hx => hp x (List.mem_append_right _ hx))

theorem post_true {H : Type} {enc : TypeId × Value → H} {P : Program} {f : Func} {s : ChangeSpec} (hl : laidOutB P = true) {tb : TypeId} (hr : f.resultTypes = #[tb]) (hb : P.underlying tb = some .bool)
    (ht : (f.params.toList.all fun t => P.readableRec t && decide (t < P.types.size)) = true) (hv : s.vars = [])
    {W W' : World} {args : Array Value} {ds gs : List (DataW H)} {before : List MemPlace} (hs : s.fn H (ds ++ gs) = { results := [.lit (.bool true)], args := ds })
    (hW : DataW.Whole enc P f.params.toList s.vars false W args.toList ds gs before) (hB : Below W.heap.size W W') : s.post enc P f false true false false W args (.bool true) W' := by
  have hW' := hW
  obtain ⟨p, q, hA, hV, rfl, hfz, hnd⟩ := hW
  rw [hv] at hV
  obtain ⟨rfl, rfl⟩ := trodVars_none hV
  simp only [List.append_nil] at hW' hs
  refine ⟨ds, [], p, [], p, [], hW', ?_, ?_, ?_, World.keptBut_mono (fun x hx => ?_) (hB.frame (· ∈ p)), fun h => by cases h⟩
  · simp only [List.append_nil]
    rw [hs, hr]
    exact trodAll_cons_mk (shut_bool hb _) trodAll_mk0
  · simp only [List.append_nil]
    rw [hs]
    exact trodAll_below hl hB _ _ _ _ hA ht fun x hx => by simpa using hW'.lt x hx
  · simp only [List.append_nil]
    rw [hs, hv]
    trivial
  · exact ⟨hx, .inr (.inl hx)⟩

theorem Step.below {μ μ' : Map} {M M' : Store} {w w' : World} (h : Step μ M w μ' M' w') (hro : ∀ i l, μ i = some l → l.own = false) : Below w.heap.size w w' := by
  obtain ⟨t, _, hf, _⟩ := h.log
  exact ⟨h.os, h.tape, h.output, h.size, fun k hk => hf k hk fun i _ l hl ho => by rw [hro i l hl] at ho; cases ho⟩

/-- The answer is true, and what was there is as it was. -/
theorem calls_true {P : Program} {call : ACall} (hc : CallOk P call) {f : FuncId} {args cargs : Array Value} {M M' : Store} (h : call true f args M = some (.bool true, M')) {μ : Map} {w : World} (hR : Rel P μ M w) (hro : ∀ i l, μ i = some l → l.own = false)
    (ha : LRel (VRel P μ w.shape?) cargs.toList args.toList) : Calls P f cargs w fun e w' => e = .returned (.bool true) ∧ Below w.heap.size w w' := by
  obtain ⟨_, h1⟩ := hc.fn f args M _ M' h
  refine (h1 μ w cargs hR ha).mono fun e w' ⟨cv, he, μ', hR', hS, hv⟩ => ?_
  refine ⟨?_, hS.below hro⟩
  rw [he, hv.bool]

/-- No memory at all. -/
def M00 : Store := ⟨0, [], []⟩
theorem rel_empty {P : Program} (w : World) : Rel P (fun _ => none) M00 w := ⟨fun _ _ h => absurd h (by simp), fun _ _ h => absurd h (by simp), fun _ _ _ _ h => absurd h (by simp)⟩

end Go.Ab
