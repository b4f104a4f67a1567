/- Slices of texts that are handed in. -/
import Derived.Test.YtnonfejhkbaikaaDoorPR1
import Derived.Test.YtnonfejhkbaikaaDoorPAbVec2
import Derived.SliceStrings
namespace Go.G
open Go.Ab Go.Proofs Go.RowKit Go.Deep Go.ChangeShapes Go.WideShapes Go.ChangeAt
set_option linter.unusedVariables false
set_option maxRecDepth 100000

theorem crel_str {P : Program} {μ : Map} {sh : Shp} (s : ByteArray) : CRel P μ sh (.string s) (.string s) := rfl
def txs (ss : List ByteArray) : List (List UInt8) := ss.map fun s => s.data.toList
theorem sv_tx (s : ByteArray) : (Value.string ⟨s.data.toList.toArray⟩) = .string s := by simp
theorem lay_texts {P : Program} {w : World} {μ : Map} {M : Store} (hL : Lay P w μ M) {a : Option Addr} {n c : Nat} (hnc : n ≤ c) (hc : c ≤ maxLen) (ha : a = none → c = 0) {ss : List ByteArray} (hz : n ≤ ss.length)
    (hf : ∀ x, a = some x → ∀ i, i < n → w.cell? (x.add i) = some (.string (ss.getD i ByteArray.empty))) (e : TypeId) :
    ∃ μ' M' v, Lay P w μ' M' ∧ MLe μ μ' ∧ Up M M' ∧ VRel P μ' w.shape? (.slice a n c) v ∧ Sl 1 e M' v (txs (ss.take n)).length ((txs (ss.take n)).map sv) := by
  have hl : (txs (ss.take n)).length = n := by simp [txs]; omega
  by_cases hn : 0 < n
  · cases a with
    | none => have := ha rfl; omega
    | some x =>
      have hvs : LRel (CRel P μ w.shape?) ((List.range n).map fun i => Value.string (ss.getD i ByteArray.empty)) ((txs (ss.take n)).map sv) := by
        have : (List.range n).map (fun i => Value.string (ss.getD i ByteArray.empty)) = (txs (ss.take n)).map sv := by
          apply List.ext_getElem?
          intro i
          rw [List.getElem?_map, List.getElem?_map, txs, List.getElem?_map, List.getElem?_take]
          by_cases hi : i < n
          · have hzi : i < ss.length := by omega
            rw [if_pos hi, List.getElem?_range hi, List.getElem?_eq_getElem hzi]
            simp [List.getD_eq_getElem?_getD, List.getElem?_eq_getElem hzi]
          · rw [if_neg hi, List.getElem?_eq_none (by simp; omega)]; rfl
        rw [this]
        refine LRel.same fun v hv => ?_
        obtain ⟨x, _, rfl⟩ := List.mem_map.1 hv
        exact crel_str _
      obtain ⟨μ', h1, h2, h3, h4⟩ := lay_row hL hnc hc hn (hf x rfl) hvs e
      refine ⟨μ', _, _, h1, h2, Up.push _ _, h3, ?_⟩
      rw [hl]; exact h4
  · have hn0 : n = 0 := by omega
    subst hn0
    obtain ⟨a', h1, h2⟩ := sl_empty (P := P) (μ := μ) (sh := w.shape?) a c hc ha
    exact ⟨μ, M, .slice a' 0 2, hL, .refl _, Ch.refl _ _, VRel.of_B h2, ⟨by simp [txs], a', 2, rfl, h1, fun h => by simp [txs] at h⟩⟩

theorem cells_str : Tryd.prog.cellsOf Ty.string = 1 := by kernel_rfl
theorem upto_strs {H : Type} (ss : List ByteArray) : (txs ss).flatten.length + ss.length ≤ Proofs.YtnonfejhkbaikaaDoor.Rows.uptoBulkAll (strs (H := H) ss) := by
  induction ss with
  | nil => simp [txs]
  | cons z zs ih =>
    simp only [strs, txs, List.map_cons, Proofs.YtnonfejhkbaikaaDoor.Rows.uptoBulkAll, Proofs.YtnonfejhkbaikaaDoor.Rows.uptoBulk, List.length_cons, List.flatten_cons, List.length_append] at ih ⊢
    omega
theorem in_texts {H : Type} {enc : TypeId × Value → H} {w : World} {μ : Map} {M : Store} (hL : Lay Tryd.prog w μ M) {r : Reach} {b0 : Nat} {held : Bool} {v : Value} {d : DataW H} {ps : List MemPlace}
    (hval : Value.okWide Tryd.prog w r b0 Ty.sl_string v) (h : DataW.Trod enc Tryd.prog w 0 (fun _ => true) held Ty.sl_string v d ps) :
    ∃ μ' M' a, ∃ l : List (List UInt8), Lay Tryd.prog w μ' M' ∧ MLe μ μ' ∧ Up M M' ∧ VRel Tryd.prog μ' w.shape? v a ∧ Sl 1 Ty.string M' a l.length (l.map sv) ∧ l.flatten.length + l.length + 1 ≤ Proofs.YtnonfejhkbaikaaDoor.Rows.uptoBulk d := by
  obtain ⟨a, n, c, rfl⟩ := okWide_slice U.sl_string hval
  obtain ⟨fuel, hf⟩ := h
  rcases open_strings U.sl_string U.string cells_str hf with ⟨hcs, hx⟩ | ⟨a', n', c', ss, hcs, _, hl, hm, hz, hx, hcell, hwz⟩
  · simp [Value.cells] at hcs
    obtain ⟨rfl, rfl, rfl⟩ := hcs
    simp only [Prod.mk.injEq] at hx
    obtain ⟨rfl, rfl⟩ := hx
    obtain ⟨μ', M', v, h1, h2, h3, h4, h5⟩ := lay_texts hL (a := none) (n := 0) (c := 0) (Nat.le_refl _) (by simp [maxLen]) (fun _ => rfl) (ss := []) (by simp) (fun x hx => by cases hx) Ty.string
    exact ⟨μ', M', v, [], h1, h2, h3, h4, h5, by simp [Proofs.YtnonfejhkbaikaaDoor.Rows.uptoBulk]⟩
  · simp [Value.cells] at hcs
    obtain ⟨rfl, rfl, rfl⟩ := hcs
    simp only [Prod.mk.injEq] at hx
    obtain ⟨rfl, rfl⟩ := hx
    simp only [if_true] at hz
    obtain ⟨μ', M', v, h1, h2, h3, h4, h5⟩ := lay_texts hL (a := some a') hl hm (fun h => by cases h) (ss := ss) (by omega) (fun x hx i hi => by injection hx with hx; subst hx; exact hcell i (by omega)) Ty.string
    refine ⟨μ', M', v, txs (ss.take n), h1, h2, h3, h4, h5, ?_⟩
    have := upto_strs (H := H) (ss.take n)
    have h6 : (txs (ss.take n)).length = (ss.take n).length := by simp [txs]
    simp only [Proofs.YtnonfejhkbaikaaDoor.Rows.uptoBulk]
    omega
end Go.G
