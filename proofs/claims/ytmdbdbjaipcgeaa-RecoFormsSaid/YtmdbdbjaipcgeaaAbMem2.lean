/- The abstract machine's memory operations are the model's: stores, new objects. -/
import Derived.Test.YtmdbdbjaipcgeaaAbMem
set_option linter.unusedVariables false
set_option linter.unusedSimpArgs false
namespace Go.Ab
open Go.RowKit

theorem splice_length {c l : List Value} {o : Nat} (h : o + l.length ≤ c.length) : (splice c o l).length = c.length := by
  simp [splice]; omega
theorem splice_take {c l : List Value} {o n : Nat} (h : o + l.length ≤ n) (hn : n ≤ c.length) : (splice c o l).take n = splice (c.take n) o l := by
  unfold splice
  have e1 : List.take o (List.take n c) = List.take o c := by rw [List.take_take, Nat.min_eq_left (by omega)]
  rw [e1, List.drop_take, List.take_append, List.take_of_length_le (by simp; omega)]
  congr 2
  simp only [List.length_append, List.length_take]
  omega
theorem splice_rel {R : Value → Value → Prop} {c c' l l' : List Value} {o : Nat} (h : LRel R c c') (k : LRel R l l') : LRel R (splice c o l) (splice c' o l') := by
  unfold splice
  rw [k.1]
  exact ((h.take _).append k).append (h.drop _)

theorem splice_set {c l : List Value} {n : Nat} {v : Value} (h : n < c.length) : splice (c.set n v) (n + 1) l = splice c n (v :: l) := by
  unfold splice
  have e1 : (c.set n v).take (n + 1) = c.take n ++ [v] := by
    rw [List.set_eq_take_append_cons_drop, if_pos h]
    have : (c.take n).length = n := by simp; omega
    rw [List.take_append, this, List.take_of_length_le (by omega), show n + 1 - n = 1 by omega]
    simp
  have e2 : (c.set n v).drop (n + 1 + l.length) = c.drop (n + (v :: l).length) := by
    rw [List.drop_set_of_lt (by omega)]
    simp [Nat.add_assoc, Nat.add_comm 1]
  rw [e1, e2]
  simp

theorem run_storeRow {P : Program} {b o : Nat} {e : TypeId} {fr : Nat × Nat} : ∀ (vs : List Value) (i : Nat) (cc : Array Value) (w : World), w.heap[b]? = some (.cells cc e fr) → o + i + vs.length ≤ cc.size →
    (∀ k, k < cc.size → ¬ (fr.1 ≤ k ∧ k < fr.2)) → (∀ v ∈ vs, v.oneCell' = true) →
    ∃ w' cc', (storeCells ⟨b, o, none⟩ vs i).run P w = .ok () w' ∧ w'.heap[b]? = some (.cells cc' e fr) ∧ cc'.toList = splice cc.toList (o + i) vs ∧ WroteB w w' b
  | [], i, cc, w, hb, hl, hf, h1 => ⟨w, cc, rfl, hb, by simp [splice], ⟨fun _ _ => rfl, rfl, rfl, rfl, rfl, rfl⟩⟩
  | v :: vs, i, cc, w, hb, hl, hf, h1 => by
    simp only [List.length_cons] at hl
    have hbs : b < w.heap.size := (Array.getElem?_eq_some_iff.1 hb).1
    have hcell : w.cell? ⟨b, o + i, none⟩ = some (cc[o + i]'(by omega)) := by
      simp only [World.cell?, hb]
      exact Array.getElem?_eq_getElem (by omega)
    have hfr : w.frozen? ⟨b, o + i, none⟩ = false := by
      have := hf (o + i) (by omega)
      simp only [World.frozen?, hb]
      simpa using this
    have hst : (store ((⟨b, o, none⟩ : Addr).add i) v).run P w = .ok () (w.setCell ⟨b, o + i, none⟩ v) := by
      rw [addr_add, run_store P w _ v _ (h1 v (by simp))]
      simp [hcell, hfr]
    have hb' : (w.setCell ⟨b, o + i, none⟩ v).heap[b]? = some (.cells (cc.setIfInBounds (o + i) v) e fr) := by
      simp [World.setCell, Array.getElem?_modify, hb]
    obtain ⟨w', cc', h2, h3, h4, h5⟩ := run_storeRow (P := P) (b := b) (o := o) (e := e) (fr := fr) vs (i + 1) (cc.setIfInBounds (o + i) v) (w.setCell ⟨b, o + i, none⟩ v) hb' (by simp; omega) (by simpa using hf) (fun x hx => h1 x (by simp [hx]))
    refine ⟨w', cc', ?_, h3, ?_, ?_⟩
    · simp only [storeCells, Sem.run_bind, hst, Result.andThen_ok, h2]
    · rw [h4]
      rw [Array.toList_setIfInBounds]
      exact splice_set (by simp; omega)
    · refine ⟨fun k hk => ?_, ?_, ?_, h5.os, h5.tape, h5.output⟩
      · rw [h5.other k hk]
        simp only [World.setCell, Array.getElem?_modify]
        rw [if_neg (by simpa using Ne.symm hk)]
      · rw [h5.size]; simp [World.setCell]
      · rw [h5.shp]
        simp [World.shape?, hb', hb]

theorem own_block {P : Program} {μ : Map} {M : Store} {w : World} (hR : Rel P μ M w) {i : Nat} {l : Loc} {c : List Value} {e : TypeId} (hi : μ i = some l) (hg : M.get i = some (.inl (c, e, true))) :
    l.own = true ∧ l.o = 0 ∧ ∃ cc fr, w.heap[l.b]? = some (.cells cc e fr) ∧ c.length ≤ cc.size ∧ LRel (CRel P μ w.shape?) (cc.toList.take c.length) c ∧ FrOk cc.size fr := by
  have := hR.obj _ _ hi
  rw [hg] at this
  obtain ⟨h1, cc, ce, fr, h2, h3, h4⟩ := this
  obtain ⟨rfl, h5, h6⟩ := h4 rfl
  rw [h5] at h3
  simp only [List.drop_zero] at h3
  refine ⟨h1.symm, h5, cc, fr, h2, ?_, h3, h6⟩
  have := h3.1
  simp at this
  omega

theorem astore_run {P : Program} {μ : Map} {M M' : Store} {w : World} (hR : Rel P μ M w) {t : TypeId} {a v ca cv : Value} (h : astore P t a v M = some M') (ha : VRel P μ w.shape? ca a) (hv : VRel P μ w.shape? cv v) :
    ∃ w', (Instr.storeAt t ca cv).run P w = .ok () w' ∧ Rel P μ M' w' ∧ Step μ M w μ M' w' := by
  unfold astore at h
  split at h
  · rename_i b o
    split at h
    · rename_i c e hg
      split at h
      · rename_i hc
        obtain ⟨hs, hle, h1⟩ := hc
        injection h with h; subst h
        obtain ⟨y, rfl, hy⟩ := ha.pointer
        cases y <;> first | exact hy.elim | skip
        obtain ⟨_, l, hl, rfl⟩ := hy
        obtain ⟨ho, ho0, cc, fr, hb, hcl, hrel, hfr⟩ := own_block hR hl hg
        have hcells := hv.cells h1
        have hcs := hcells.1
        simp only [Array.length_toList] at hcs
        have hlo : l.o + o = o := by omega
        obtain ⟨w', cc', h2, h3, h4, h5⟩ := run_storeRow (P := P) (b := l.b) (o := l.o + o) cv.cells.toList 0 cc w hb (by simp; omega) hfr.cells (fun u hu => by
          obtain ⟨i, hi, rfl⟩ := List.getElem_of_mem hu
          obtain ⟨x, _, hx⟩ := hcells.get' (List.getElem?_eq_getElem hi)
          exact hx.one.1)
        refine ⟨w', ?_, rel_set hR hl hg ho h5 _ ⟨ho.symm, cc', e, fr, h3, ?_, fun _ => ⟨rfl, ho0, ?_⟩⟩⟩
        · simp [Instr.storeAt, Instr.sureAddr, storeVar, run_sizeOf' hs, hcs, h2]
        · rw [ho0, List.drop_zero, h4, Nat.add_zero, hlo, splice_length (by simpa using hle), splice_take (by simp; omega) (by simpa using hcl)]
          exact splice_rel (hrel.mono fun _ _ => CRel.mono (.refl _) h5.sle) (hcells.mono fun _ _ => CRel.mono (.refl _) h5.sle)
        · have hsz : cc'.size = cc.size := by
            have : cc'.toList.length = cc.toList.length := by rw [h4, splice_length (by simp; omega)]
            simpa using this
          rw [hsz]; exact hfr
      · cases h
    · cases h
  · cases h

/-! ## new objects -/
/-- A new block of cells, of which the first are an object. -/
theorem rel_newCells {P : Program} {μ : Map} {M : Store} {w w' : World} (hR : Rel P μ M w) {cc : Array Value} {e : TypeId} {fr : Nat × Nat} (hn : NewB w w' (.cells cc e fr)) (c : List Value)
    (hc : LRel (CRel P μ w.shape?) (cc.toList.take c.length) c) (hf : FrOk cc.size fr) :
    Rel P (upd μ M.n ⟨w.heap.size, 0, true⟩) (M.push (some (.inl (c, e, true)))) w' ∧ Step μ M w (upd μ M.n ⟨w.heap.size, 0, true⟩) (M.push (some (.inl (c, e, true)))) w' :=
  rel_new hR hn _ ⟨rfl, cc, e, fr, by rw [hn.heap]; simp, by simpa using hc.mono fun _ _ => CRel.mono (MLe.upd hR.fresh) (shp_push hn.heap), fun _ => ⟨rfl, rfl, hf⟩⟩

theorem newB_alloc (w : World) (o : Obj) : NewB w (w.alloc o) o := ⟨rfl, rfl, rfl, rfl⟩
theorem ptr_new {P : Program} {μ : Map} {M : Store} {sh : Shp} (n : Nat) : VRel P (upd μ M.n ⟨n, 0, true⟩) sh (.pointer (some ⟨n, 0, none⟩)) (.pointer (some ⟨M.n, 0, none⟩)) :=
  show AddrRel _ _ _ from ⟨rfl, _, upd_eq _ _ _, rfl⟩

/-- What an operation that makes memory comes to. -/
def Made (P : Program) (μ : Map) (M : Store) (w : World) (v : Value) (M' : Store) (cv : Value) (w' : World) : Prop :=
  ∃ μ', Rel P μ' M' w' ∧ Step μ M w μ' M' w' ∧ VRel P μ' w'.shape? cv v

theorem aalloc_run {P : Program} {μ : Map} {M M' : Store} {w : World} (hR : Rel P μ M w) {t : TypeId} {r : Value} (h : aalloc P t M = some (r, M')) :
    ∃ cr w', (Instr.alloc t true (.tuple #[])).run P w = .ok cr w' ∧ Made P μ M w r M' cr w' := by
  unfold aalloc at h
  obtain ⟨z, hz, h⟩ := Option.bind_eq_some_iff.1 h
  split at h
  · rename_i hp
    injection h with h; injection h with h h'; subst h; subst h'
    refine ⟨.pointer (some ⟨w.heap.size, 0, none⟩), w.alloc (.cells z.cells t), ?_, ?_⟩
    · simp [Instr.alloc, run_zeroValue' hz, newVar, newRow]
    · obtain ⟨h1, h2⟩ := rel_newCells hR (newB_alloc w (.cells z.cells t)) z.cells.toList (by rw [List.take_length]; exact plain_cells hp) (.inl rfl)
      exact ⟨_, h1, h2, ptr_new _⟩
  · cases h

theorem abox_run {P : Program} {μ : Map} {M M' : Store} {w : World} (hR : Rel P μ M w) {t : TypeId} {v cv r : Value} (h : abox t v M = some (r, M')) (hv : VRel P μ w.shape? cv v) :
    ∃ cr w', (Instr.box t cv).run P w = .ok cr w' ∧ Made P μ M w r M' cr w' := by
  unfold abox at h
  split at h
  · rename_i hp
    injection h with h; injection h with h h'; subst h; subst h'
    refine ⟨.pointer (some ⟨w.heap.size, 0, none⟩), w.alloc (.cells cv.cells t), ?_, ?_⟩
    · simp [Instr.box, newVar, newRow]
    · have hc := hv.cells hp
      obtain ⟨h1, h2⟩ := rel_newCells hR (newB_alloc w (.cells cv.cells t)) v.cells.toList (by rw [← hc.1, List.take_length]; exact hc) (.inl rfl)
      exact ⟨_, h1, h2, ptr_new _⟩
  · cases h

theorem slice_new {P : Program} {μ : Map} {M : Store} {w w' : World} {cc : Array Value} {e : TypeId} {fr : Nat × Nat} (hn : NewB w w' (.cells cc e fr)) {s n c ca : Nat} (hs : szOf P e = some s) (hnc : n ≤ c) (hmax : c ≤ maxLen) (hfull : ca = n → c = n) (hsz : c * s ≤ cc.size) :
    VRel P (upd μ M.n ⟨w.heap.size, 0, true⟩) w'.shape? (.slice (some ⟨w.heap.size, 0, none⟩) n c) (.slice (some ⟨M.n, 0, none⟩) n ca) := by
  refine ⟨rfl, hnc, hmax, hfull, rfl, fun q => (by cases q), fun _ x hx => ?_⟩
  injection hx with hx; subst hx
  refine ⟨_, rfl, ⟨rfl, _, upd_eq _ _ _, rfl⟩, fun l hl _ => ?_⟩
  have hl' : (⟨w.heap.size, 0, true⟩ : Loc) = l := by
    have := upd_eq μ M.n ⟨w.heap.size, 0, true⟩
    rw [hl] at this; injection this with this; exact this.symm
  subst hl'
  refine ⟨e, cc.size, s, ?_, hs, by simpa using hsz⟩
  simp [World.shape?, hn.heap]

theorem zerosOf_rel {P : Program} {μ : Map} {sh : Shp} {z : Value} (hz : z.cells.all plainV = true) (h0 : 0 < z.cells.size) (n : Nat) : LRel (CRel P μ sh) (zerosOf z n).toList (zerosOf z n).toList := by
  refine LRel.same fun v hv => ?_
  simp only [zerosOf, Array.toList_map, List.mem_map] at hv
  obtain ⟨i, _, rfl⟩ := hv
  have hlt : i % z.cells.size < z.cells.size := Nat.mod_lt _ h0
  rw [getElem!_pos z.cells _ hlt]
  exact .of_B (plain_B (Array.all_eq_true_iff_forall_mem.1 hz _ (Array.getElem_mem hlt)))

end Go.Ab
