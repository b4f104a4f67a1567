/- From a call that answers true to a row: all that the rows of this seat share. -/
import Derived.Test.YtnonfejhkbaikaaRows
import Derived.Test.YtnonfejhkbaikaaPR00
import Derived.Test.YtnonfejhkbaikaaPKE
import Derived.Test.YtnonfejhkbaikaaPKC
import Derived.ProofKit
import Derived.OpenShut
import Derived.JoinedCond
import Derived.Deep.Matrix
namespace Go.G
open Go.Ab Go.Proofs Go.RowKit Go.Deep Go.ChangeShapes Go.WideShapes Go.ChangeAt
set_option linter.unusedVariables false
set_option maxRecDepth 100000

theorem cells_u8 : Try.prog.cellsOf Ty.uint8 = 1 := by kernel_rfl

/-- Bytes that are handed in. -/
theorem in_bytes {H : Type} {enc : TypeId × Value → H} {w : World} {μ : Map} {M : Store} (hL : Lay Try.prog w μ M) {r : Reach} {b0 : Nat} {held : Bool} {v : Value} {d : DataW H} {ps : List MemPlace}
    (hval : Value.okWide Try.prog w r b0 Ty.sl_uint8 v) (h : DataW.Trod enc Try.prog w 0 (fun _ => true) held Ty.sl_uint8 v d ps) :
    ∃ μ' M' a l, Lay Try.prog w μ' M' ∧ MLe μ μ' ∧ Up M M' ∧ VRel Try.prog μ' w.shape? v a ∧ By Ty.uint8 M' a l ∧ l.length + 1 ≤ Proofs.Ytnonfejhkbaikaa.Rows.uptoBulk d := by
  obtain ⟨a, n, c, rfl⟩ := okWide_slice U.sl_uint8 hval
  obtain ⟨fuel, hf⟩ := h
  rcases open_ints U.sl_uint8 U.uint8 cells_u8 hf with ⟨hcs, hx⟩ | ⟨a', n', c', zs, hcs, _, hl, hm, hz, hx, hcell, hwz⟩
  · simp [Value.cells] at hcs
    obtain ⟨rfl, rfl, rfl⟩ := hcs
    simp only [Prod.mk.injEq] at hx
    obtain ⟨rfl, rfl⟩ := hx
    obtain ⟨μ', M', v, l, h1, h2, h3, h4, h5, h6⟩ := lay_bytes hL (a := none) (n := 0) (c := 0) (Nat.le_refl _) (by simp [maxLen]) (fun _ => rfl) (zs := []) (by simp) (fun x hx => by cases hx) (fun z hz => by cases hz) Ty.uint8
    exact ⟨μ', M', v, l, h1, h2, h3, h4, h5, by rw [h6]; simp [Proofs.Ytnonfejhkbaikaa.Rows.uptoBulk]⟩
  · simp [Value.cells] at hcs
    obtain ⟨rfl, rfl, rfl⟩ := hcs
    simp only [Prod.mk.injEq] at hx
    obtain ⟨rfl, rfl⟩ := hx
    simp only [if_true] at hz
    obtain ⟨μ', M', v, l, h1, h2, h3, h4, h5, h6⟩ := lay_bytes hL (a := some a') hl hm (fun h => by cases h) (zs := zs) (by omega) (fun x hx i hi => by injection hx with hx; subst hx; exact hcell i (by omega)) hwz Ty.uint8
    refine ⟨μ', M', v, l, h1, h2, h3, h4, h5, ?_⟩
    have hlits : ∀ zs : List Int, zs.length ≤ Proofs.Ytnonfejhkbaikaa.Rows.uptoBulkAll (lits (H := H) .u8 zs) := by
      intro zs
      induction zs with
      | nil => simp
      | cons z zs ih => simp only [lits, List.map_cons, Proofs.Ytnonfejhkbaikaa.Rows.uptoBulkAll, Proofs.Ytnonfejhkbaikaa.Rows.uptoBulk, List.length_cons] at ih ⊢; omega
    have := hlits (zs.take n)
    simp only [Proofs.Ytnonfejhkbaikaa.Rows.uptoBulk]
    rw [List.length_take] at this
    omega

theorem cells_sl : Try.prog.cellsOf Ty.sl_uint8 = 1 := by kernel_rfl
theorem uptoAll_append {H : Type} (l r : List (DataW H)) : Proofs.Ytnonfejhkbaikaa.Rows.uptoBulkAll (l ++ r) = Proofs.Ytnonfejhkbaikaa.Rows.uptoBulkAll l + Proofs.Ytnonfejhkbaikaa.Rows.uptoBulkAll r := by
  induction l with
  | nil => simp [Proofs.Ytnonfejhkbaikaa.Rows.uptoBulkAll]
  | cons x l ih => simp only [List.cons_append, Proofs.Ytnonfejhkbaikaa.Rows.uptoBulkAll, ih]; omega
theorem upto_lits {H : Type} (zs : List Int) : zs.length ≤ Proofs.Ytnonfejhkbaikaa.Rows.uptoBulkAll (lits (H := H) .u8 zs) := by
  induction zs with
  | nil => simp
  | cons z zs ih => simp only [lits, List.map_cons, Proofs.Ytnonfejhkbaikaa.Rows.uptoBulkAll, Proofs.Ytnonfejhkbaikaa.Rows.uptoBulk, List.length_cons] at ih ⊢; omega

end Go.G
