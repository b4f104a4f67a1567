/- The abstract machine's memory operations are the model's: slices made, conversions, appends, copies. -/
import Derived.Test.YtmdbdbjaipcgeaaAbMem2
set_option linter.unusedVariables false
set_option linter.unusedSimpArgs false
namespace Go.Ab
open Go.RowKit

theorem LRel.plain {P : Program} {μ : Map} {sh : Shp} {l : List Value} (h : ∀ v ∈ l, plainV v = true) : LRel (CRel P μ sh) l l := LRel.same fun v hv => .of_B (plain_B (h v hv))
theorem zerosOf_size (z : Value) (n : Nat) : (zerosOf z n).size = n := by simp [zerosOf]

theorem abuildSlice_run {P : Program} {μ : Map} {M M' : Store} {w : World} (hR : Rel P μ M w) {ρc ρa : Operand → Value} {t : TypeId} {n : Nat} {ps : Array (Nat × Operand)} {r : Value}
    (h : abuildSlice P t n (ps.map fun p => (p.1, ρa p.2)) M = some (r, M')) (hv : ∀ p ∈ ps, VRel P μ w.shape? (ρc p.2) (ρa p.2)) :
    ∃ cr w', (Instr.buildSlice t n (ps.map fun p => (p.1, ρc p.2))).run P w = .ok cr w' ∧ Made P μ M w r M' cr w' := by
  unfold abuildSlice at h
  split at h
  · rename_i e hu
    obtain ⟨s, hs, h⟩ := Option.bind_eq_some_iff.1 h
    obtain ⟨z, hz, h⟩ := Option.bind_eq_some_iff.1 h
    split at h
    · rename_i hp
      simp only [Bool.and_eq_true, decide_eq_true_eq] at hp
      obtain ⟨hle, ⟨hs0, hzp⟩, hall⟩ := hp
      obtain ⟨c, hc, h⟩ := Option.bind_eq_some_iff.1 h
      injection h with h; injection h with h h'; subst h; subst h'
      have hp2 : ∀ p ∈ ps.toList, (ρa p.2).cells.all (·.oneCell') = true := by
        intro p hp'
        exact Array.all_eq_true_iff_forall_mem.1 hall (p.1, ρa p.2) (Array.mem_map.2 ⟨p, by simpa using hp', rfl⟩)
      have hzr : LRel (CRel P μ w.shape?) (zerosOf z (n * s)).toList (zerosOf z (n * s)).toList := by
        by_cases h0 : n * s = 0
        · rw [h0]; simp [zerosOf, LRel]
        · by_cases hz0 : 0 < z.cells.size
          · exact zerosOf_rel hzp hz0 _
          · have hz1 : z.cells.size = 0 := by omega
            refine LRel.same fun v hv => ?_
            simp only [zerosOf, Array.toList_map, List.mem_map] at hv
            obtain ⟨i, _, rfl⟩ := hv
            rw [getElem!_neg z.cells _ (by rw [hz1]; omega)]
            exact .of_B rfl
      obtain ⟨cr, h1, h2⟩ := fill_rel (ρc := ρc) (ρa := ρa) ps.toList (zerosOf z (n * s)) (zerosOf z (n * s)) c (fun p hp => hv p (by simpa using hp)) hp2 hzr (by simpa using hc)
      have hN := newB_alloc w (.cells cr e)
      have hsize : cr.size = n * s := by
        have : ∀ (l : List (Nat × Value)) (c c' : Array Value), Instr.fill (fun i => some (i * s, s)) c l = some c' → c'.size = c.size := by
          intro l
          induction l with
          | nil => intro c c' hq; simp [Instr.fill] at hq; rw [hq]
          | cons p l ih =>
            intro c c' hq
            simp only [Instr.fill] at hq
            split at hq
            · cases hq
            · rename_i hn0
              rw [ih _ _ hq]
              rw [← Array.foldl_toList]
              generalize (p.2.cells.zipIdx).toList = zs
              clear hq ih hn0
              induction zs generalizing c with
              | nil => rfl
              | cons x xs ih => simp only [List.foldl_cons]; rw [ih]; simp
        rw [this _ _ _ h1, zerosOf_size]
      obtain ⟨h3, h4⟩ := rel_newCells hR hN c.toList (by rw [← h2.1, List.take_length]; exact h2) (.inl rfl)
      refine ⟨.slice (some ⟨w.heap.size, 0, none⟩) n n, w.alloc (.cells cr e), ?_, _, h3, h4, slice_new hN hs (Nat.le_refl _) ?_ (fun _ => rfl) (by omega)⟩
      · have h1' : Instr.fill (fun i => some (i * s, s)) (zerosOf z (n * s)) (ps.map fun p => (p.1, ρc p.2)).toList = some cr := by simpa using h1
        simp only [Instr.buildSlice, Sem.run_bind, run_underlying' hu, Result.andThen_ok, run_sizeOf' hs, Sem.run_ite]
        rw [if_neg (by omega)]
        simp only [Sem.run_bind, Sem.run_pure, Result.andThen_ok, Sem.run_ite]
        by_cases h0 : n * s = 0
        · rw [if_pos h0]
          have e2 : Array.map (fun x => (#[] : Array Value)[x % (#[] : Array Value).size]!) (Array.range (n * s)) = zerosOf z (n * s) := by simp [h0, zerosOf]
          rw [e2, h1']
          simp [newRow]
        · rw [if_neg h0, run_zeroValue' hz]
          simp only [Result.andThen_ok]
          have e2 : Array.map (fun x => z.cells[x % z.cells.size]!) (Array.range (n * s)) = zerosOf z (n * s) := rfl
          rw [e2, h1']
          simp [newRow]
      · have : n ≤ n * s := Nat.le_mul_of_pos_right _ hs0
        simp [maxLen]; omega
    · cases h
  · cases h

theorem amakeSlice_run {P : Program} {μ : Map} {M M' : Store} {w : World} (hR : Rel P μ M w) {t : TypeId} {l c cl cc r : Value} (h : amakeSlice P t l c M = some (r, M')) (hl : VRel P μ w.shape? cl l) (hc : VRel P μ w.shape? cc c) :
    ∃ cr w', (Instr.makeSlice t cl cc).run P w = .ok cr w' ∧ Made P μ M w r M' cr w' := by
  unfold amakeSlice at h
  split at h
  · rename_i e l c hu
    obtain rfl := hl.int; obtain rfl := hc.int
    obtain ⟨s, hs, h⟩ := Option.bind_eq_some_iff.1 h
    obtain ⟨by_, hby, h⟩ := Option.bind_eq_some_iff.1 h
    obtain ⟨z, hz, h⟩ := Option.bind_eq_some_iff.1 h
    split at h
    · rename_i hp
      obtain ⟨h0, h1, h2, h3, hzp, hs0⟩ := hp
      rw [zerosL_eq] at h
      injection h with h; injection h with h h'; subst h; subst h'
      obtain ⟨l, rfl⟩ := Int.eq_ofNat_of_zero_le h0
      obtain ⟨c, rfl⟩ := Int.eq_ofNat_of_zero_le (show 0 ≤ c by omega)
      have hi : ∃ i, P.info? e = some i ∧ i.bytes = by_ ∧ i.size = s := by
        unfold byOf at hby; unfold szOf at hs
        obtain ⟨i, hi, hb⟩ := Option.map_eq_some_iff.1 hby
        rw [hi] at hs
        exact ⟨i, hi, hb, by simpa using hs⟩
      obtain ⟨i, hi, hb, hsz⟩ := hi
      have h2' : c ≤ 1099511627776 := by
        have e : (2 : Int) ^ 40 = 1099511627776 := by decide
        rw [e] at h2
        omega
      have hw1 : IntKind.i64.wrap (l : Int) = l := IntWalk.i64_in _ (by omega)
      have hw2 : IntKind.i64.wrap (c : Int) = c := IntWalk.i64_in _ (by omega)
      let cells : Array Value := zerosOf z (c * s)
      have hcells : cells = zerosOf z (c * s) := rfl
      have hN := newB_alloc w (.cells cells e)
      have hlc : l ≤ c := by omega
      have hplain : ∀ v ∈ (zerosOf z (c * s)).toList, plainV v = true := by
        intro v hv
        simp only [zerosOf, Array.toList_map, List.mem_map] at hv
        obtain ⟨i, _, rfl⟩ := hv
        by_cases hz0 : 0 < z.cells.size
        · have hlt : i % z.cells.size < z.cells.size := Nat.mod_lt _ hz0
          rw [getElem!_pos z.cells _ hlt]
          exact Array.all_eq_true_iff_forall_mem.1 hzp _ (Array.getElem_mem hlt)
        · have hz1 : z.cells.size = 0 := by omega
          rw [getElem!_neg z.cells _ (by rw [hz1]; omega)]
          rfl
      have htake : (zerosOf z (c * s)).toList.take (l * s) = (zerosOf z (l * s)).toList := by
        have : l * s ≤ c * s := Nat.mul_le_mul_right _ hlc
        simp only [zerosOf, Array.toList_map, ← List.map_take, Array.toList_range]
        rw [List.take_range, Nat.min_eq_left this]
      obtain ⟨h4, h5⟩ := rel_newCells hR hN (zerosOf z (l * s)).toList (by
        rw [hcells, Array.length_toList, zerosOf_size, htake]
        exact LRel.plain fun v hv => hplain v (List.mem_of_mem_take (by rw [htake]; exact hv))) (.inl rfl)
      refine ⟨.slice (some ⟨w.heap.size, 0, none⟩) l c, w.alloc (.cells cells e), ?_, _, h4, h5, slice_new hN hs hlc (by simp [maxLen]; omega) ?_ (by rw [hcells, zerosOf_size]; exact Nat.le_refl _)⟩
      · have hbc : (by_ : Int) * c ≤ 281474976710656 := by omega
        have e3 : (askRoom (c * by_)).run P w = .ok () w := by
          unfold askRoom
          split <;> simp [mark, Sem.run]
        simp only [Instr.makeSlice, Sem.run_bind, run_underlying' hu, Result.andThen_ok, asInt, asIntOf, Sem.run_pure, typeInfo, run_program, hi, hb, hw1, hw2, Sem.run_ite]
        rw [if_neg (by simp; omega)]
        simp only [Int.toNat_natCast, e3, run_sizeOf' hs, Sem.run_bind, Sem.run_pure, Result.andThen_ok, Sem.run_ite]
        by_cases h0 : c * s = 0
        · rw [if_pos h0]
          have e2 : Array.map (fun x => (#[] : Array Value)[x % (#[] : Array Value).size]!) (Array.range (c * s)) = zerosOf z (c * s) := by simp [h0, zerosOf]
          rw [e2]
          simp [newRow, cells]
        · rw [if_neg h0, run_zeroValue' hz]
          simp [newRow, cells, zerosOf]
      · simp only [Int.toNat_natCast]
        intro q
        split at q
        · omega
        · omega
    · cases h
  · cases h

end Go.Ab
