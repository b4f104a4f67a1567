/- Options that are handed in. -/
import Derived.Test.YtnonfejhkbaikaaDoorPR1t
import Derived.Test.YtnonfejhkbaikaaDoorPW21
namespace Go.G
open Go.Ab Go.Proofs Go.RowKit Go.Deep Go.ChangeShapes Go.WideShapes Go.ChangeAt
set_option linter.unusedVariables false
set_option maxRecDepth 100000

def fieldsOf (d : Option TypeDesc) : List (TypeId × Nat) := match d with
  | some (.struct fs) => fs.toList.map fun f => (f.type, f.offset)
  | _ => []
theorem four_fields {P : Program} {t t0 t1 t2 t3 : TypeId} (h : fieldsOf (P.underlying t) = [(t0, 0), (t1, 1), (t2, 2), (t3, 3)]) :
    ∃ f0 f1 f2 f3 : Field, P.underlying t = some (.struct #[f0, f1, f2, f3]) ∧ (f0.type = t0 ∧ f0.offset = 0) ∧ (f1.type = t1 ∧ f1.offset = 1) ∧ (f2.type = t2 ∧ f2.offset = 2) ∧ f3.type = t3 ∧ f3.offset = 3 := by
  unfold fieldsOf at h
  split at h
  · rename_i fs hu
    obtain ⟨l⟩ := fs
    have hl : l.length = 4 := by have := congrArg List.length h; simpa using this
    match l, hl, h with
    | [f0, f1, f2, f3], _, h =>
      simp only [List.map_cons, List.map_nil, List.cons.injEq, Prod.mk.injEq, and_true] at h
      exact ⟨f0, f1, f2, f3, hu, h.1, h.2.1, h.2.2.1, h.2.2.2⟩
  · cases h
theorem on_fields : fieldsOf (Tryd.prog.underlying Ty.api_Options) = [(Ty.bool, 0), (Ty.bool, 1), (Ty.bool, 2), (Ty.sl_string, 3)] := by kernel_rfl
theorem cells_on : Tryd.prog.cellsOf Ty.api_Options = 4 := by kernel_rfl
theorem cells_bool : Tryd.prog.cellsOf Ty.bool = 1 := by kernel_rfl
theorem cells_slstr : Tryd.prog.cellsOf Ty.sl_string = 1 := by kernel_rfl
/-- A struct of four cells, opened. -/
theorem open4c {H : Type} {enc : TypeId × Value → H} {w : World} {held : Bool} {t t0 t1 t2 t3 : TypeId} {v : Value} {d : DataW H} {ps : List MemPlace} {r : Reach} {b0 : Nat}
    (hfs : fieldsOf (Tryd.prog.underlying t) = [(t0, 0), (t1, 1), (t2, 2), (t3, 3)]) (h0 : Tryd.prog.cellsOf t0 = 1) (h1 : Tryd.prog.cellsOf t1 = 1) (h2 : Tryd.prog.cellsOf t2 = 1) (h3 : Tryd.prog.cellsOf t3 = 1) (ht : Tryd.prog.cellsOf t = 4)
    (hval : Value.okWide Tryd.prog w r b0 t v) (h : DataW.Trod enc Tryd.prog w 0 (fun _ => true) held t v d ps) :
    ∃ c0 c1 c2 c3 n, ∃ y0 y1 y2 y3 : DataW H × List MemPlace, v = .agg #[c0, c1, c2, c3] ∧ d = .agg [y0.1, y1.1, y2.1, y3.1] ∧
      DataW.trod enc Tryd.prog w 0 (fun _ => true) held n t0 [c0] = some y0 ∧ DataW.trod enc Tryd.prog w 0 (fun _ => true) held n t1 [c1] = some y1 ∧ DataW.trod enc Tryd.prog w 0 (fun _ => true) held n t2 [c2] = some y2 ∧ DataW.trod enc Tryd.prog w 0 (fun _ => true) held n t3 [c3] = some y3 := by
  obtain ⟨f0, f1, f2, f3, hu, ⟨a0, b0'⟩, ⟨a1, b1'⟩, ⟨a2, b2'⟩, a3, b3'⟩ := four_fields hfs
  obtain ⟨cs, rfl, hcs⟩ := okWide_struct hu hval
  obtain ⟨fuel, hf⟩ := h
  obtain ⟨xs, n, _, hx, hl, hxl, hfi⟩ := DataW.trod_struct hu hf
  simp only [Prod.mk.injEq] at hx
  obtain ⟨rfl, rfl⟩ := hx
  rw [ht] at hcs
  obtain ⟨l⟩ := cs
  match l, hcs with
  | [c0, c1, c2, c3], _ =>
    match xs, hxl with
    | [y0, y1, y2, y3], _ =>
      have hc : (Value.agg #[c0, c1, c2, c3]).cells.toList = [c0, c1, c2, c3] := rfl
      have g0 := hfi 0 f0 rfl
      have g1 := hfi 1 f1 rfl
      have g2 := hfi 2 f2 rfl
      have g3 := hfi 3 f3 rfl
      rw [a0, b0', h0] at g0
      rw [a1, b1', h1] at g1
      rw [a2, b2', h2] at g2
      rw [a3, b3', h3] at g3
      exact ⟨c0, c1, c2, c3, n, y0, y1, y2, y3, rfl, rfl, g0, g1, g2, g3⟩

theorem in_texts0 {H : Type} {enc : TypeId × Value → H} {w : World} {μ : Map} {M : Store} (hL : Lay Tryd.prog w μ M) {held : Bool} {fuel : Nat} {cell : Value} {x : DataW H × List MemPlace}
    (hf : DataW.trod enc Tryd.prog w 0 (fun _ => true) held fuel Ty.sl_string [cell] = some x) :
    ∃ a n c, cell = .slice a n c ∧ ∃ μ' M' v, ∃ l : List (List UInt8), Lay Tryd.prog w μ' M' ∧ MLe μ μ' ∧ Up M M' ∧ VRel Tryd.prog μ' w.shape? (.slice a n c) v ∧ Sl 1 Ty.string M' v l.length (l.map sv) := by
  rcases open_strings U.sl_string U.string cells_str hf with ⟨hcs, hx⟩ | ⟨a', n', c', ss, hcs, _, hl, hm, hz, hx, hcell, hwz⟩
  · simp only [List.cons.injEq, and_true] at hcs
    subst hcs; subst hx
    obtain ⟨μ', M', v, h1, h2, h3, h4, h5⟩ := lay_texts hL (a := none) (n := 0) (c := 0) (Nat.le_refl _) (by simp [maxLen]) (fun _ => rfl) (ss := []) (by simp) (fun x hx => by cases hx) Ty.string
    exact ⟨_, _, _, rfl, μ', M', v, _, h1, h2, h3, h4, h5⟩
  · simp only [List.cons.injEq, and_true] at hcs
    subst hcs; subst hx
    simp only [if_true] at hz
    obtain ⟨μ', M', v, h1, h2, h3, h4, h5⟩ := lay_texts hL (a := some a') hl hm (fun h => by cases h) (ss := ss) (by omega) (fun x hx i hi => by injection hx with hx; subst hx; exact hcell i (by omega)) Ty.string
    exact ⟨_, _, _, rfl, μ', M', v, _, h1, h2, h3, h4, h5⟩
theorem crel_bool {P : Program} {μ : Map} {sh : Shp} (b : Bool) : CRel P μ sh (.bool b) (.bool b) := rfl
theorem in_opts {H : Type} {enc : TypeId × Value → H} {w : World} {μ : Map} {M : Store} (hL : Lay Tryd.prog w μ M) {r : Reach} {b0 : Nat} {held : Bool} {v : Value} {d : DataW H} {ps : List MemPlace}
    (hval : Value.okWide Tryd.prog w r b0 Ty.api_Options v) (h : DataW.Trod enc Tryd.prog w 0 (fun _ => true) held Ty.api_Options v d ps) :
    ∃ μ' M' a, ∃ o : OpT, Lay Tryd.prog w μ' M' ∧ MLe μ μ' ∧ Up M M' ∧ VRel Tryd.prog μ' w.shape? v a ∧ OV M' a o ∧ True := by
  obtain ⟨c0, c1, c2, c3, n, y0, y1, y2, y3, rfl, rfl, g0, g1, g2, g3⟩ := open4c on_fields cells_bool cells_bool cells_bool cells_slstr cells_on hval h
  obtain ⟨i0, e0, x0⟩ := DataW.trod_bool U.bool g0
  obtain ⟨i1, e1, x1⟩ := DataW.trod_bool U.bool g1
  obtain ⟨i2, e2, x2⟩ := DataW.trod_bool U.bool g2
  simp only [List.cons.injEq, and_true] at e0 e1 e2
  subst e0; subst e1; subst e2
  obtain ⟨a, k, c, rfl, μ', M', v, l, h1, h2, h3, h4, h5⟩ := in_texts0 hL g3
  obtain ⟨a', c', rfl⟩ := h5.slice
  refine ⟨μ', M', .agg (ocs (i0, i1, i2, l) a' c').toArray, (i0, i1, i2, l), h1, h2, h3, ?_, ⟨a', c', rfl, h5⟩, trivial⟩
  show LRel (CRel Tryd.prog μ' w.shape?) [Value.bool i0, .bool i1, .bool i2, .slice a k c] [Value.bool i0, .bool i1, .bool i2, .slice a' l.length c']
  exact LRel.cons (crel_bool _) (LRel.cons (crel_bool _) (LRel.cons (crel_bool _) (LRel.cons h4 (LRel.nil _))))
end Go.G
