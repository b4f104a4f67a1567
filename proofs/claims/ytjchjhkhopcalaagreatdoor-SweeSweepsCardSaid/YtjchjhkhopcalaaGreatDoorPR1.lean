/- Slices of ints that are handed in. -/
import Derived.Test.YtjchjhkhopcalaaGreatDoorPR0
namespace Go.G
open Go.Ab Go.Proofs Go.RowKit Go.Deep Go.ChangeShapes Go.WideShapes Go.ChangeAt
set_option linter.unusedVariables false
set_option maxRecDepth 100000
theorem oa {P : Program} {w : World} {μ : Map} {M : Store} (hL : Lay P w μ M) {a : Option Addr} {n c : Nat} (hnc : n ≤ c) (hc : c ≤ maxLen) (ha : a = none → c = 0) {zs : List Int} (hz : n ≤ zs.length)
    (hf : ∀ x, a = some x → ∀ i, i < n → w.cell? (x.add i) = some (.int .i64 (zs.getD i 0))) (e : TypeId) :
    ∃ μ' M' v, Lay P w μ' M' ∧ MLe μ μ' ∧ Up M M' ∧ VRel P μ' w.shape? (.slice a n c) v ∧ Sl 1 e M' v (zs.take n).length ((zs.take n).map fun z => Value.int .i64 z) := by
 have hl : (zs.take n).length = n := by simp; omega
 by_cases hn : 0 < n
 ·cases a with
  | none => have := ha rfl; omega
  | some x =>
   have hvs : LRel (CRel P μ w.shape?) ((List.range n).map fun i => Value.int .i64 (zs.getD i 0)) ((zs.take n).map fun z => Value.int .i64 z) := by
    have : (List.range n).map (fun i => Value.int .i64 (zs.getD i 0)) = (zs.take n).map fun z => Value.int .i64 z := by
     apply List.ext_getElem?
     intro i
     rw [List.getElem?_map, List.getElem?_map, List.getElem?_take]
     by_cases hi : i < n
     ·have hzi : i < zs.length := by omega
      rw [if_pos hi, List.getElem?_range hi, List.getElem?_eq_getElem hzi]
      simp [List.getD_eq_getElem?_getD, List.getElem?_eq_getElem hzi]
     ·rw [if_neg hi, List.getElem?_eq_none (by simp; omega)]; rfl
    rw [this]
    refine LRel.same fun v hv => ?_
    obtain ⟨x, _, rfl⟩ := List.mem_map.1 hv
    exact nM _ _
   obtain ⟨μ', h1, h2, h3, h4⟩ := ti hL hnc hc hn (hf x rfl) hvs e
   refine ⟨μ', _, _, h1, h2, Up.push _ _, h3, ?_⟩
   rw [hl]; exact h4
 ·have hn0 : n = 0 := by omega
  subst hn0
  obtain ⟨a', h1, h2⟩ := rZ (P := P) (μ := μ) (sh := w.shape?) a c hc ha
  exact ⟨μ, M, .slice a' 0 2, hL, .refl _, Ch.refl _ _, VRel.of_B h2, ⟨by simp, a', 2, rfl, h1, fun h => by simp at h⟩⟩
theorem qJ : Tryz.prog.cellsOf Ty.f = 1 := by kernel_rfl
theorem oS {H : Type} (zs : List Int) : zs.length ≤ Proofs.YtjchjhkhopcalaaGreatDoor.Rows.uptoBulkAll (lits (H := H) .i64 zs) := by
 induction zs with
 | nil => simp
 | cons z zs ih => simp only [lits, List.map_cons, Proofs.YtjchjhkhopcalaaGreatDoor.Rows.uptoBulkAll, Proofs.YtjchjhkhopcalaaGreatDoor.Rows.uptoBulk, List.length_cons] at ih ⊢; omega
theorem tf {H : Type} {enc : TypeId × Value → H} {w : World} {μ : Map} {M : Store} (hL : Lay Tryz.prog w μ M) {r : Reach} {b0 : Nat} {held : Bool} {v : Value} {d : DataW H} {ps : List MemPlace}
    (hval : Value.okWide Tryz.prog w r b0 Ty.g v) (h : DataW.Trod enc Tryz.prog w 0 (fun _ => true) held Ty.g v d ps) :
    ∃ μ' M' a, ∃ l : List Int, Lay Tryz.prog w μ' M' ∧ MLe μ μ' ∧ Up M M' ∧ VRel Tryz.prog μ' w.shape? v a ∧ Sl 1 Ty.f M' a l.length (l.map fun z => Value.int .i64 z) ∧ l.length + 1 ≤ Proofs.YtjchjhkhopcalaaGreatDoor.Rows.uptoBulk d := by
 obtain ⟨a, n, c, rfl⟩ := okWide_slice U.c hval
 obtain ⟨fuel, hf⟩ := h
 rcases open_ints U.c U.e qJ hf with ⟨hcs, hx⟩ | ⟨a', n', c', zs, hcs, _, hl, hm, hz, hx, hcell, hwz⟩
 ·simp [Value.cells] at hcs
  obtain ⟨rfl, rfl, rfl⟩ := hcs
  simp only [Prod.mk.injEq] at hx
  obtain ⟨rfl, rfl⟩ := hx
  obtain ⟨μ', M', v, h1, h2, h3, h4, h5⟩ := oa hL (a := none) (n := 0) (c := 0) (Nat.le_refl _) (by simp [maxLen]) (fun _ => rfl) (zs := []) (by simp) (fun x hx => by cases hx) Ty.f
  exact ⟨μ', M', v, [], h1, h2, h3, h4, h5, by simp [Proofs.YtjchjhkhopcalaaGreatDoor.Rows.uptoBulk]⟩
 ·simp [Value.cells] at hcs
  obtain ⟨rfl, rfl, rfl⟩ := hcs
  simp only [Prod.mk.injEq] at hx
  obtain ⟨rfl, rfl⟩ := hx
  simp only [if_true] at hz
  obtain ⟨μ', M', v, h1, h2, h3, h4, h5⟩ := oa hL (a := some a') hl hm (fun h => by cases h) (zs := zs) (by omega) (fun x hx i hi => by injection hx with hx; subst hx; exact hcell i (by omega)) Ty.f
  refine ⟨μ', M', v, zs.take n, h1, h2, h3, h4, h5, ?_⟩
  have := oS (H := H) (zs.take n)
  simp only [Proofs.YtjchjhkhopcalaaGreatDoor.Rows.uptoBulk]
  omega
end Go.G
