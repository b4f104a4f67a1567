/- Actions that are handed in. -/
import Derived.Test.YtpacolplhcfamaaPR1
import Derived.Test.YtpacolplhcfamaaPA6
namespace Go.G
open Go.Ab Go.Proofs Go.RowKit Go.Deep Go.ChangeShapes Go.WideShapes Go.ChangeAt
set_option linter.unusedVariables false
set_option maxRecDepth 100000

/-- A slice whose elements are some cells each. -/
theorem lay_rowS {P : Program} {w : World} {μ : Map} {M : Store} (hL : Lay P w μ M) {a : Addr} {n c s : Nat} (hnc : n ≤ c) (hc : c ≤ maxLen) (hn : 0 < n) (hs0 : 0 < s) {f : Nat → Value} {vs : List Value} (hf : ∀ i, i < n * s → w.cell? (a.add i) = some (f i))
    (hvs : LRel (CRel P μ w.shape?) ((List.range (n * s)).map f) vs) (e : TypeId) :
    ∃ μ', Lay P w μ' (M.push (some (.inl (vs, e, false)))) ∧ MLe μ μ' ∧ VRel P μ' w.shape? (.slice (some a) n c) (.slice (some ⟨M.n, 0, none⟩) n (n + 2)) ∧ Sl s e (M.push (some (.inl (vs, e, false)))) (.slice (some ⟨M.n, 0, none⟩) n (n + 2)) n vs := by
  have hpos : 0 < n * s := Nat.mul_pos hn hs0
  obtain ⟨hs, cc, ce, fr, hb, hwin⟩ := cells_window hpos hf
  have hlen : vs.length = n * s := by have := hvs.1; simpa using this.symm
  have hc' : LRel (CRel P μ w.shape?) ((cc.toList.drop a.off).take vs.length) vs := by rw [hlen, hwin]; exact hvs
  obtain ⟨h1, h2, h3⟩ := rel_add hL.rel hL.ro hb hc' e
  refine ⟨_, ⟨h1, h3, hL.glob.mono h2 (.refl _)⟩, h2, ?_, by rw [hlen], _, _, rfl, ?_, ?_⟩
  · refine VRel.of_B (show SlRel P _ _ _ _ _ _ _ _ from { len := rfl, le := hnc, max := hc, full := (fun h => by omega), some_ := rfl, nil := (fun h => by cases h), addr := ?_ })
    intro _ x hx
    injection hx with hx; subst hx
    refine ⟨a, rfl, ⟨rfl, ⟨a.block, a.off, false⟩, upd_eq _ _ _, ?_⟩, ?_⟩
    · obtain ⟨b, o, sp⟩ := a; simp only at hs; subst hs; rfl
    · intro l hl ho
      rw [upd_eq] at hl; injection hl with hl; subst hl; cases ho
  · intro x hx; injection hx with hx; subst hx; rfl
  · intro _
    exact ⟨M.n, 0, vs, e, false, rfl, Store.get_push_eq _ _, (fun h => by cases h), by omega, by rw [List.drop_zero, List.take_of_length_le (by omega)]⟩
theorem list_of {P : Nat → Dw → Prop} : ∀ n : Nat, (∀ i, i < n → ∃ d, P i d) → ∃ l : List Dw, l.length = n ∧ ∀ i (h : i < l.length), P i l[i]
  | 0, _ => ⟨[], rfl, fun i h => by simp at h⟩
  | n + 1, h => by
    obtain ⟨l, hl, hp⟩ := list_of n fun i hi => h i (by omega)
    obtain ⟨d, hd⟩ := h n (by omega)
    refine ⟨l ++ [d], by simp [hl], fun i hi => ?_⟩
    by_cases e : i < l.length
    · rw [List.getElem_append_left e]; exact hp i e
    · have : i = l.length := by simp at hi; omega
      subst this
      rw [List.getElem_append_right (Nat.le_refl _)]
      simp only [Nat.sub_self, List.getElem_cons_zero]
      rw [hl]; exact hd
def fields3 (d : Option TypeDesc) : List (TypeId × Nat) := match d with
  | some (.struct fs) => fs.toList.map fun f => (f.type, f.offset)
  | _ => []
theorem three_fields {P : Program} {t t0 t1 t2 : TypeId} (h : fields3 (P.underlying t) = [(t0, 0), (t1, 1), (t2, 2)]) :
    ∃ f0 f1 f2 : Field, P.underlying t = some (.struct #[f0, f1, f2]) ∧ (f0.type = t0 ∧ f0.offset = 0) ∧ (f1.type = t1 ∧ f1.offset = 1) ∧ f2.type = t2 ∧ f2.offset = 2 := by
  unfold fields3 at h
  split at h
  · rename_i fs hu
    obtain ⟨l⟩ := fs
    have hl : l.length = 3 := by have := congrArg List.length h; simpa using this
    match l, hl, h with
    | [f0, f1, f2], _, h =>
      simp only [List.map_cons, List.map_nil, List.cons.injEq, Prod.mk.injEq, and_true] at h
      exact ⟨f0, f1, f2, hu, h.1, h.2.1, h.2.2⟩
  · cases h
theorem do_fields : fields3 (Try.prog.underlying Ty.api_Do) = [(Ty.int, 0), (Ty.int, 1), (Ty.string, 2)] := by kernel_rfl
theorem cells_str3 : Try.prog.cellsOf Ty.string = 1 := by kernel_rfl
theorem cells_do : Try.prog.cellsOf Ty.api_Do = 3 := by kernel_rfl
theorem und_sl_do : Try.prog.underlying Ty.sl_api_Do = some (.slice Ty.api_Do) := by kernel_rfl
theorem und_str : Try.prog.underlying Ty.string = some .string := by kernel_rfl
theorem open_do {H : Type} {enc : TypeId × Value → H} {w : World} {held : Bool} {n : Nat} {cs : List Value} {y : DataW H × List MemPlace} (h : DataW.trod enc Try.prog w 0 (fun _ => true) held n Ty.api_Do cs = some y) : ∃ d : Dw, cs = dcs d := by
  obtain ⟨f0, f1, f2, hu, ⟨a0, b0⟩, ⟨a1, b1⟩, a2, b2⟩ := three_fields do_fields
  obtain ⟨xs, m, _, _, hl, hxl, hfi⟩ := DataW.trod_struct hu h
  rw [cells_do] at hl
  match cs, hl with
  | [c0, c1, c2], _ =>
    match xs, hxl with
    | [y0, y1, y2], _ =>
      have g0 := hfi 0 f0 rfl
      have g1 := hfi 1 f1 rfl
      have g2 := hfi 2 f2 rfl
      rw [a0, b0, cells_int] at g0
      rw [a1, b1, cells_int] at g1
      rw [a2, b2, cells_str3] at g2
      obtain ⟨i0, e0, _, _⟩ := DataW.trod_int U.int g0
      obtain ⟨i1, e1, _, _⟩ := DataW.trod_int U.int g1
      obtain ⟨s, e2, _, _⟩ := DataW.trod_string und_str g2
      simp only [List.drop_zero, List.drop_succ_cons, List.take_succ_cons, List.take_zero, List.cons.injEq, and_true] at e0 e1 e2
      subst e0; subst e1; subst e2
      exact ⟨(i0, i1, s.data.toList), rfl⟩
theorem in_dos {H : Type} {enc : TypeId × Value → H} {w : World} {μ : Map} {M : Store} (hL : Lay Try.prog w μ M) {r : Reach} {b0 : Nat} {held : Bool} {v : Value} {d : DataW H} {ps : List MemPlace}
    (hval : Value.okWide Try.prog w r b0 Ty.sl_api_Do v) (h : DataW.Trod enc Try.prog w 0 (fun _ => true) held Ty.sl_api_Do v d ps) :
    ∃ μ' M' a, ∃ l : List Dw, Lay Try.prog w μ' M' ∧ MLe μ μ' ∧ Up M M' ∧ VRel Try.prog μ' w.shape? v a ∧ DS M' a l ∧ 0 = 0 := by
  obtain ⟨a, n, c, rfl⟩ := okWide_slice und_sl_do hval
  obtain ⟨fuel, hf⟩ := h
  have empty : ∀ (a : Option Addr) (c : Nat), c ≤ maxLen → (a = none → c = 0) → ∃ μ' M' b, ∃ l : List Dw, Lay Try.prog w μ' M' ∧ MLe μ μ' ∧ Up M M' ∧ VRel Try.prog μ' w.shape? (.slice a 0 c) b ∧ DS M' b l ∧ 0 = 0 := by
    intro a c hc ha
    obtain ⟨a', h1, h2⟩ := sl_empty (P := Try.prog) (μ := μ) (sh := w.shape?) a c hc ha
    exact ⟨μ, M, .slice a' 0 2, [], hL, .refl _, Ch.refl _ _, VRel.of_B h2, ⟨by simp, a', 2, rfl, h1, fun h => by simp at h⟩, rfl⟩
  rcases DataW.trod_slice und_sl_do hf with ⟨hcs, hx⟩ | ⟨a', n', c', elems, rest, m, _, hcs, hx, _, hl, hm, hlen, hel, _, _⟩
  · simp [Value.cells] at hcs
    obtain ⟨rfl, rfl, rfl⟩ := hcs
    exact empty none 0 (by simp [maxLen]) (fun _ => rfl)
  · simp [Value.cells] at hcs
    obtain ⟨rfl, rfl, rfl⟩ := hcs
    by_cases hn : 0 < n
    · have each : ∀ i, i < n → ∃ d : Dw, ∀ j, j < 3 → w.cell? (a'.add (i * 3 + j)) = (dcs d)[j]? := by
        intro i hi
        have hi' := hel i hi
        rw [cells_do, List.getElem?_eq_getElem (by omega), Option.bind_eq_some_iff] at hi'
        obtain ⟨cs', hcs', hy⟩ := hi'
        obtain ⟨d, rfl⟩ := open_do hy
        refine ⟨d, fun j hj => ?_⟩
        have := (World.cells?_some hcs').2.2 j hj
        rw [Addr.add_add] at this
        exact this
      obtain ⟨l, hll, hlp⟩ := list_of n each
      have hfl : (l.flatMap dcs).length = n * 3 := by rw [fm_length dcs_len, hll]
      have hcell : ∀ q, q < n * 3 → w.cell? (a'.add q) = some ((l.flatMap dcs).getD q undef) := by
        intro q hq
        have hi : q / 3 < l.length := by rw [hll]; omega
        have h1 := hlp (q / 3) hi (q % 3) (Nat.mod_lt _ (by decide))
        rw [show q / 3 * 3 + q % 3 = q by omega] at h1
        have h2 := fm_at (k := 3) dcs_len hi
        have h3 : (l.flatMap dcs)[q]? = (dcs l[q / 3])[q % 3]? := by
          rw [← h2, List.getElem?_take, if_pos (Nat.mod_lt _ (by decide)), List.getElem?_drop, show q / 3 * 3 + q % 3 = q by omega]
        rw [h1, ← h3, List.getD_eq_getElem?_getD, List.getElem?_eq_getElem (by omega)]; rfl
      have hvs : LRel (CRel Try.prog μ w.shape?) ((List.range (n * 3)).map fun q => (l.flatMap dcs).getD q undef) (l.flatMap dcs) := by
        have : (List.range (n * 3)).map (fun q => (l.flatMap dcs).getD q undef) = l.flatMap dcs := by
          apply List.ext_getElem?
          intro q
          rw [List.getElem?_map]
          by_cases hq : q < n * 3
          · rw [List.getElem?_range hq, List.getElem?_eq_getElem (by omega)]
            simp [List.getD_eq_getElem?_getD, List.getElem?_eq_getElem (show q < (l.flatMap dcs).length by omega)]
          · rw [List.getElem?_eq_none (by simp; omega), List.getElem?_eq_none (by omega)]; rfl
        rw [this]
        refine LRel.same fun v hv => ?_
        obtain ⟨d, _, hd⟩ := List.mem_flatMap.1 hv
        simp only [dcs, List.mem_cons, List.not_mem_nil, or_false] at hd
        rcases hd with rfl | rfl | rfl
        · exact crel_int _ _
        · exact crel_int _ _
        · exact rfl
      obtain ⟨μ', h1, h2, h3, h4⟩ := lay_rowS hL hl hm hn (s := 3) (by decide) hcell hvs Ty.api_Do
      refine ⟨μ', _, _, l, h1, h2, Up.push _ _, h3, ?_, rfl⟩
      show Sl 3 Ty.api_Do _ _ l.length _
      rw [hll]; exact h4
    · have hn0 : n = 0 := by omega
      subst hn0
      exact empty (some a') c hm (fun h => by cases h)
end Go.G
