/- A closed call that answers true does so from any memory, and touches nothing. -/
import Derived.Test.YtmdbdbjaipcgeaaAbClose
set_option linter.unusedVariables false
set_option linter.unusedSimpArgs false
namespace Go.Ab

/-- What a closed call that answers true comes to. -/
def yes0 : Array Value → Store → Option (Value × Store) := fun args M => if args.size = 0 then some (.bool true, M) else none

theorem closed_ok {P : Program} {call : ACall} (hc : CallOk P call) {f : FuncId} {M' : Store} (h : call true f #[] M00 = some (.bool true, M')) : CallOk1 P f yes0 := by
  intro args M v M1 hg
  unfold yes0 at hg
  split at hg
  · rename_i ha
    injection hg with hg; injection hg with h1 h2; subst h1; subst h2
    obtain ⟨⟨hf, _⟩, h2⟩ := hc.fn f #[] M00 _ M' h
    refine ⟨⟨hf, Grow.refl _⟩, fun μ w cargs hR hargs => ?_⟩
    have hcs : cargs = #[] := by
      apply Array.toList_inj.1
      have := hargs.1
      apply List.length_eq_zero_iff.1
      rw [this]; simpa using ha
    subst hcs
    refine (h2 (fun _ => none) w #[] (rel_empty w) (LRel.nil _)).mono fun e w' ⟨cv, he, μ', hR', hS, hv⟩ => ?_
    have hb := hS.below (fun _ _ h => by cases h)
    obtain ⟨t, _, hheap, _⟩ := hS.log
    have hheap : ∀ b, b < w.heap.size → w'.heap[b]? = w.heap[b]? := fun b hb => hheap b hb fun i _ l hl => by cases hl
    refine ⟨.bool true, by rw [he, hv.bool], μ, ⟨fun i l hl => ?_, fun i l hl => ?_, hR.excl⟩, ⟨.refl _, Nat.le_refl _, hS.size, hS.os, hS.tape, hS.output, hS.shp, [], rfl, fun b hb _ => hheap b hb, fun i l hl => .inl hl⟩, rfl⟩
    · exact ⟨(hR.dom i l hl).1, Nat.lt_of_lt_of_le (hR.dom i l hl).2 hS.size⟩
    · exact (hR.obj i l hl).mono (.refl _) hS.shp (hheap _ (hR.dom i l hl).2)
  · cases hg

end Go.Ab
