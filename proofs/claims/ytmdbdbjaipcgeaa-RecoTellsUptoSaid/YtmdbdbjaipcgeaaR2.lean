/- Locks and doings that are handed in. -/
import Derived.Test.YtmdbdbjaipcgeaaR1
import Derived.Test.YtmdbdbjaipcgeaaU12
namespace Go.G
open Go.Ab Go.Proofs Go.RowKit Go.Deep Go.ChangeShapes Go.WideShapes Go.ChangeAt
set_option linter.unusedVariables false
set_option maxRecDepth 100000

def fieldsOf (d : Option TypeDesc) : List (TypeId × Nat) := match d with
  | some (.struct fs) => fs.toList.map fun f => (f.type, f.offset)
  | _ => []
theorem four_fields {P : Program} {t t0 t1 t2 t3 : TypeId} (h : fieldsOf (P.underlying t) = [(t0, 0), (t1, 1), (t2, 2), (t3, 3)]) :
    ∃ f0 f1 f2 f3 : Field, P.underlying t = some (.struct #[f0, f1, f2, f3]) ∧ (f0.type = t0 ∧ f0.offset = 0) ∧ (f1.type = t1 ∧ f1.offset = 1) ∧ (f2.type = t2 ∧ f2.offset = 2) ∧ f3.type = t3 ∧ f3.offset = 3 := by
  unfold fieldsOf at h
  split at h
  · rename_i fs hu
    obtain ⟨l⟩ := fs
    have hl : l.length = 4 := by have := congrArg List.length h; simpa using this
    match l, hl, h with
    | [f0, f1, f2, f3], _, h =>
      simp only [List.map_cons, List.map_nil, List.cons.injEq, Prod.mk.injEq, and_true] at h
      exact ⟨f0, f1, f2, f3, hu, h.1, h.2.1, h.2.2.1, h.2.2.2⟩
  · cases h
theorem lk_fields : fieldsOf (Try.prog.underlying Ty.api_Lock) = [(Ty.int, 0), (Ty.int, 1), (Ty.int, 2), (Ty.int, 3)] := by kernel_rfl
theorem dn_fields : fieldsOf (Try.prog.underlying Ty.api_Done) = [(Ty.string, 0), (Ty.int, 1), (Ty.int, 2), (Ty.sl_uint8, 3)] := by kernel_rfl
theorem cells_str : Try.prog.cellsOf Ty.string = 1 := by kernel_rfl
theorem cells_lk : Try.prog.cellsOf Ty.api_Lock = 4 := by kernel_rfl
theorem cells_dn : Try.prog.cellsOf Ty.api_Done = 4 := by kernel_rfl

/-- A struct of four cells, opened. -/
theorem open4c {H : Type} {enc : TypeId × Value → H} {w : World} {held : Bool} {t t0 t1 t2 t3 : TypeId} {v : Value} {d : DataW H} {ps : List MemPlace} {r : Reach} {b0 : Nat}
    (hfs : fieldsOf (Try.prog.underlying t) = [(t0, 0), (t1, 1), (t2, 2), (t3, 3)]) (h0 : Try.prog.cellsOf t0 = 1) (h1 : Try.prog.cellsOf t1 = 1) (h2 : Try.prog.cellsOf t2 = 1) (h3 : Try.prog.cellsOf t3 = 1) (ht : Try.prog.cellsOf t = 4)
    (hval : Value.okWide Try.prog w r b0 t v) (h : DataW.Trod enc Try.prog w 0 (fun _ => true) held t v d ps) :
    ∃ c0 c1 c2 c3 n, ∃ y0 y1 y2 y3 : DataW H × List MemPlace, v = .agg #[c0, c1, c2, c3] ∧ d = .agg [y0.1, y1.1, y2.1, y3.1] ∧
      DataW.trod enc Try.prog w 0 (fun _ => true) held n t0 [c0] = some y0 ∧ DataW.trod enc Try.prog w 0 (fun _ => true) held n t1 [c1] = some y1 ∧ DataW.trod enc Try.prog w 0 (fun _ => true) held n t2 [c2] = some y2 ∧ DataW.trod enc Try.prog w 0 (fun _ => true) held n t3 [c3] = some y3 := by
  obtain ⟨f0, f1, f2, f3, hu, ⟨a0, b0'⟩, ⟨a1, b1'⟩, ⟨a2, b2'⟩, a3, b3'⟩ := four_fields hfs
  obtain ⟨cs, rfl, hcs⟩ := okWide_struct hu hval
  obtain ⟨fuel, hf⟩ := h
  obtain ⟨xs, n, _, hx, hl, hxl, hfi⟩ := DataW.trod_struct hu hf
  simp only [Prod.mk.injEq] at hx
  obtain ⟨rfl, rfl⟩ := hx
  rw [ht] at hcs
  obtain ⟨l⟩ := cs
  match l, hcs with
  | [c0, c1, c2, c3], _ =>
    match xs, hxl with
    | [y0, y1, y2, y3], _ =>
      have hc : (Value.agg #[c0, c1, c2, c3]).cells.toList = [c0, c1, c2, c3] := rfl
      have g0 := hfi 0 f0 rfl
      have g1 := hfi 1 f1 rfl
      have g2 := hfi 2 f2 rfl
      have g3 := hfi 3 f3 rfl
      rw [a0, b0', h0] at g0
      rw [a1, b1', h1] at g1
      rw [a2, b2', h2] at g2
      rw [a3, b3', h3] at g3
      exact ⟨c0, c1, c2, c3, n, y0, y1, y2, y3, rfl, rfl, g0, g1, g2, g3⟩

theorem in_lock {H : Type} {enc : TypeId × Value → H} {w : World} {μ : Map} {r : Reach} {b0 : Nat} {held : Bool} {v : Value} {d : DataW H} {ps : List MemPlace}
    (hval : Value.okWide Try.prog w r b0 Ty.api_Lock v) (h : DataW.Trod enc Try.prog w 0 (fun _ => true) held Ty.api_Lock v d ps) :
    ∃ a b c e : Int, v = lkv a b c e ∧ VRel Try.prog μ w.shape? v (lkv a b c e) := by
  obtain ⟨c0, c1, c2, c3, n, y0, y1, y2, y3, rfl, rfl, g0, g1, g2, g3⟩ := open4c lk_fields cells_int cells_int cells_int cells_int cells_lk hval h
  obtain ⟨i0, e0, _, _⟩ := DataW.trod_int U.int g0
  obtain ⟨i1, e1, _, _⟩ := DataW.trod_int U.int g1
  obtain ⟨i2, e2, _, _⟩ := DataW.trod_int U.int g2
  obtain ⟨i3, e3, _, _⟩ := DataW.trod_int U.int g3
  simp only [List.cons.injEq, and_true] at e0 e1 e2 e3
  subst e0; subst e1; subst e2; subst e3
  refine ⟨i0, i1, i2, i3, rfl, ?_⟩
  show LRel (CRel Try.prog μ w.shape?) [Value.int .i64 i0, .int .i64 i1, .int .i64 i2, .int .i64 i3] [Value.int .i64 i0, .int .i64 i1, .int .i64 i2, .int .i64 i3]
  exact LRel.cons (crel_int _ _) (LRel.cons (crel_int _ _) (LRel.cons (crel_int _ _) (LRel.cons (crel_int _ _) (LRel.nil _))))

theorem lkv_rel {μ : Map} {sh : Shp} (a b c d : Int) : VRel Try.prog μ sh (lkv a b c d) (lkv a b c d) := by
  show LRel (CRel Try.prog μ sh) [Value.int .i64 a, .int .i64 b, .int .i64 c, .int .i64 d] [Value.int .i64 a, .int .i64 b, .int .i64 c, .int .i64 d]
  exact LRel.cons (crel_int _ _) (LRel.cons (crel_int _ _) (LRel.cons (crel_int _ _) (LRel.cons (crel_int _ _) (LRel.nil _))))

/-- The bytes of a cell that is handed in. -/
theorem in_bytes0 {H : Type} {enc : TypeId × Value → H} {w : World} {μ : Map} {M : Store} (hL : Lay Try.prog w μ M) {held : Bool} {fuel : Nat} {cell : Value} {x : DataW H × List MemPlace}
    (hf : DataW.trod enc Try.prog w 0 (fun _ => true) held fuel Ty.sl_uint8 [cell] = some x) :
    ∃ a n c, cell = .slice a n c ∧ ∃ μ' M' v l, Lay Try.prog w μ' M' ∧ MLe μ μ' ∧ Up M M' ∧ VRel Try.prog μ' w.shape? (.slice a n c) v ∧ By Ty.uint8 M' v l ∧ l.length + 1 ≤ Proofs.Ytmdbdbjaipcgeaa.Rows.uptoBulk x.1 := by
  rcases open_ints U.sl_uint8 U.uint8 cells_u8 hf with ⟨hcs, hx⟩ | ⟨a', n', c', zs, hcs, _, hl, hm, hz, hx, hcell, hwz⟩
  · simp only [List.cons.injEq, and_true] at hcs
    subst hcs; subst hx
    obtain ⟨μ', M', v, l, h1, h2, h3, h4, h5, h6⟩ := lay_bytes hL (a := none) (n := 0) (c := 0) (Nat.le_refl _) (by simp [maxLen]) (fun _ => rfl) (zs := []) (by simp) (fun x hx => by cases hx) (fun z hz => by cases hz) Ty.uint8
    exact ⟨_, _, _, rfl, μ', M', v, l, h1, h2, h3, h4, h5, by rw [h6]; simp [Proofs.Ytmdbdbjaipcgeaa.Rows.uptoBulk]⟩
  · simp only [List.cons.injEq, and_true] at hcs
    subst hcs; subst hx
    simp only [if_true] at hz
    obtain ⟨μ', M', v, l, h1, h2, h3, h4, h5, h6⟩ := lay_bytes hL (a := some a') hl hm (fun h => by cases h) (zs := zs) (by omega) (fun x hx i hi => by injection hx with hx; subst hx; exact hcell i (by omega)) hwz Ty.uint8
    refine ⟨_, _, _, rfl, μ', M', v, l, h1, h2, h3, h4, h5, ?_⟩
    have := upto_lits (H := H) (zs.take n')
    simp only [Proofs.Ytmdbdbjaipcgeaa.Rows.uptoBulk]
    rw [List.length_take] at this
    omega

theorem in_done {H : Type} {enc : TypeId × Value → H} {w : World} {μ : Map} {M : Store} (hL : Lay Try.prog w μ M) {r : Reach} {b0 : Nat} {held : Bool} {v : Value} {d : DataW H} {ps : List MemPlace}
    (hval : Value.okWide Try.prog w r b0 Ty.api_Done v) (h : DataW.Trod enc Try.prog w 0 (fun _ => true) held Ty.api_Done v d ps) :
    ∃ μ' M' a, ∃ dg : Dng, Lay Try.prog w μ' M' ∧ MLe μ μ' ∧ Up M M' ∧ VRel Try.prog μ' w.shape? v a ∧ Dn M' a dg ∧ dg.1.length + dg.2.2.2.length + 1 ≤ Proofs.Ytmdbdbjaipcgeaa.Rows.uptoBulk d := by
  obtain ⟨c0, c1, c2, c3, n, y0, y1, y2, y3, rfl, rfl, g0, g1, g2, g3⟩ := open4c dn_fields cells_str cells_int cells_int cells_sl cells_dn hval h
  obtain ⟨s, e0, x0, _⟩ := DataW.trod_string U.string g0
  obtain ⟨i1, e1, x1, _⟩ := DataW.trod_int U.int g1
  obtain ⟨i2, e2, x2, _⟩ := DataW.trod_int U.int g2
  simp only [List.cons.injEq, and_true] at e0 e1 e2
  subst e0; subst e1; subst e2
  obtain ⟨a, k, c, rfl, μ', M', v, l, h1, h2, h3, h4, h5, h6⟩ := in_bytes0 hL g3
  obtain ⟨a', c', rfl⟩ := h5.slice
  refine ⟨μ', M', dnv s.data.toList i1 i2 a' l.length c', (s.data.toList, i1, i2, l), h1, h2, h3, ?_, ⟨a', _, c', rfl, h5⟩, ?_⟩
  · show LRel (CRel Try.prog μ' w.shape?) [Value.string s, .int .i64 i1, .int .i64 i2, .slice a k c] [Value.string s, .int .i64 i1, .int .i64 i2, .slice a' l.length c']
    refine LRel.cons ?_ (LRel.cons (crel_int _ _) (LRel.cons (crel_int _ _) (LRel.cons ?_ (LRel.nil _))))
    · exact rfl
    · exact h4
  · subst x0
    simp only [Proofs.Ytmdbdbjaipcgeaa.Rows.uptoBulk, Proofs.Ytmdbdbjaipcgeaa.Rows.uptoBulkAll]
    omega

end Go.G
