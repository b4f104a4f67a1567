/- From a call that answers true to a row: all that the rows of this seat share. -/
import Derived.Test.YtnonfejhkbaikaaDoorRows
import Derived.Test.YtnonfejhkbaikaaDoorPR00
import Derived.Test.YtnonfejhkbaikaaDoorPKE
import Derived.Test.YtnonfejhkbaikaaDoorPKC
import Derived.ProofKit
import Derived.OpenShut
import Derived.JoinedCond
import Derived.Deep.Matrix
namespace Go.G
open Go.Ab Go.Proofs Go.RowKit Go.Deep Go.ChangeShapes Go.WideShapes Go.ChangeAt
set_option linter.unusedVariables false
set_option maxRecDepth 100000

theorem cells_u8 : Tryd.prog.cellsOf Ty.uint8 = 1 := by kernel_rfl

/-- Bytes that are handed in. -/
theorem in_bytes {H : Type} {enc : TypeId × Value → H} {w : World} {μ : Map} {M : Store} (hL : Lay Tryd.prog w μ M) {r : Reach} {b0 : Nat} {held : Bool} {v : Value} {d : DataW H} {ps : List MemPlace}
    (hval : Value.okWide Tryd.prog w r b0 Ty.sl_uint8 v) (h : DataW.Trod enc Tryd.prog w 0 (fun _ => true) held Ty.sl_uint8 v d ps) :
    ∃ μ' M' a l, Lay Tryd.prog w μ' M' ∧ MLe μ μ' ∧ Up M M' ∧ VRel Tryd.prog μ' w.shape? v a ∧ By Ty.uint8 M' a l ∧ l.length + 1 ≤ Proofs.YtnonfejhkbaikaaDoor.Rows.uptoBulk d := by
  obtain ⟨a, n, c, rfl⟩ := okWide_slice U.sl_uint8 hval
  obtain ⟨fuel, hf⟩ := h
  rcases open_ints U.sl_uint8 U.uint8 cells_u8 hf with ⟨hcs, hx⟩ | ⟨a', n', c', zs, hcs, _, hl, hm, hz, hx, hcell, hwz⟩
  · simp [Value.cells] at hcs
    obtain ⟨rfl, rfl, rfl⟩ := hcs
    simp only [Prod.mk.injEq] at hx
    obtain ⟨rfl, rfl⟩ := hx
    obtain ⟨μ', M', v, l, h1, h2, h3, h4, h5, h6⟩ := lay_bytes hL (a := none) (n := 0) (c := 0) (Nat.le_refl _) (by simp [maxLen]) (fun _ => rfl) (zs := []) (by simp) (fun x hx => by cases hx) (fun z hz => by cases hz) Ty.uint8
    exact ⟨μ', M', v, l, h1, h2, h3, h4, h5, by rw [h6]; simp [Proofs.YtnonfejhkbaikaaDoor.Rows.uptoBulk]⟩
  · simp [Value.cells] at hcs
    obtain ⟨rfl, rfl, rfl⟩ := hcs
    simp only [Prod.mk.injEq] at hx
    obtain ⟨rfl, rfl⟩ := hx
    simp only [if_true] at hz
    obtain ⟨μ', M', v, l, h1, h2, h3, h4, h5, h6⟩ := lay_bytes hL (a := some a') hl hm (fun h => by cases h) (zs := zs) (by omega) (fun x hx i hi => by injection hx with hx; subst hx; exact hcell i (by omega)) hwz Ty.uint8
    refine ⟨μ', M', v, l, h1, h2, h3, h4, h5, ?_⟩
    have hlits : ∀ zs : List Int, zs.length ≤ Proofs.YtnonfejhkbaikaaDoor.Rows.uptoBulkAll (lits (H := H) .u8 zs) := by
      intro zs
      induction zs with
      | nil => simp
      | cons z zs ih => simp only [lits, List.map_cons, Proofs.YtnonfejhkbaikaaDoor.Rows.uptoBulkAll, Proofs.YtnonfejhkbaikaaDoor.Rows.uptoBulk, List.length_cons] at ih ⊢; omega
    have := hlits (zs.take n)
    simp only [Proofs.YtnonfejhkbaikaaDoor.Rows.uptoBulk]
    rw [List.length_take] at this
    omega

theorem cells_sl : Tryd.prog.cellsOf Ty.sl_uint8 = 1 := by kernel_rfl
theorem uptoAll_append {H : Type} (l r : List (DataW H)) : Proofs.YtnonfejhkbaikaaDoor.Rows.uptoBulkAll (l ++ r) = Proofs.YtnonfejhkbaikaaDoor.Rows.uptoBulkAll l + Proofs.YtnonfejhkbaikaaDoor.Rows.uptoBulkAll r := by
  induction l with
  | nil => simp [Proofs.YtnonfejhkbaikaaDoor.Rows.uptoBulkAll]
  | cons x l ih => simp only [List.cons_append, Proofs.YtnonfejhkbaikaaDoor.Rows.uptoBulkAll, ih]; omega
theorem upto_lits {H : Type} (zs : List Int) : zs.length ≤ Proofs.YtnonfejhkbaikaaDoor.Rows.uptoBulkAll (lits (H := H) .u8 zs) := by
  induction zs with
  | nil => simp
  | cons z zs ih => simp only [lits, List.map_cons, Proofs.YtnonfejhkbaikaaDoor.Rows.uptoBulkAll, Proofs.YtnonfejhkbaikaaDoor.Rows.uptoBulk, List.length_cons] at ih ⊢; omega

/-- Rows of bytes that are handed in. -/
theorem in_rows {H : Type} {enc : TypeId × Value → H} {w : World} {μ : Map} {M : Store} (hL : Lay Tryd.prog w μ M) {r : Reach} {b0 : Nat} {held : Bool} {v : Value} {d : DataW H} {ps : List MemPlace}
    (hval : Value.okWide Tryd.prog w r b0 Ty.sl_sl_uint8 v) (h : DataW.Trod enc Tryd.prog w 0 (fun _ => true) held Ty.sl_sl_uint8 v d ps) :
    ∃ μ' M' a ll, Lay Tryd.prog w μ' M' ∧ MLe μ μ' ∧ Up M M' ∧ VRel Tryd.prog μ' w.shape? v a ∧ Ls (By Ty.uint8) Ty.sl_uint8 M' a ll ∧ (ll.map List.length).sum + ll.length + 1 ≤ Proofs.YtnonfejhkbaikaaDoor.Rows.uptoBulk d := by
  obtain ⟨a, n, c, rfl⟩ := okWide_slice U.sl_sl_uint8 hval
  obtain ⟨fuel, hf⟩ := h
  rcases open_int_rows U.sl_sl_uint8 U.sl_uint8 U.uint8 cells_sl cells_u8 hf with ⟨hcs, hx⟩ | ⟨a', n', c', A, L, C, Z, hcs, _, hl, hm, hx, hr⟩
  · simp [Value.cells] at hcs
    obtain ⟨rfl, rfl, rfl⟩ := hcs
    simp only [Prod.mk.injEq] at hx
    obtain ⟨rfl, rfl⟩ := hx
    obtain ⟨v', g1, g2⟩ := sl_empty (P := Tryd.prog) (μ := μ) (sh := w.shape?) none 0 (by simp [maxLen]) (fun _ => rfl)
    refine ⟨μ, M, .slice v' 0 2, [], hL, .refl _, Ch.refl _ _, VRel.of_B g2, ⟨[], ⟨by simp, v', 2, rfl, g1, fun h => by simp at h⟩, trivial⟩, by simp [Proofs.YtnonfejhkbaikaaDoor.Rows.uptoBulk]⟩
  · simp [Value.cells] at hcs
    obtain ⟨rfl, rfl, rfl⟩ := hcs
    simp only [Prod.mk.injEq] at hx
    obtain ⟨rfl, rfl⟩ := hx
    obtain ⟨μ', M', v, ll, h1, h2, h3, h4, h5, h6⟩ := lay_rows' hL hl hm A L C Z Ty.uint8 Ty.sl_uint8 fun r hr' => by
      obtain ⟨q1, q2, q3, q4, q5, q6, q7⟩ := hr r (by omega)
      exact ⟨q1, q2, q3, q4, q5, q6, fun a' ha' => (q7 a' ha').2⟩
    refine ⟨μ', M', v, ll, h1, h2, h3, h4, h5, ?_⟩
    have hlen : ll.length = n := by have := congrArg List.length h6; simpa using this
    rw [h6, hlen]
    have key : ∀ m, m ≤ n → ((List.range m).map L).sum + m ≤ Proofs.YtnonfejhkbaikaaDoor.Rows.uptoBulkAll ((List.range m).map fun r => intRow (H := H) .u8 (A r) (L r) (Z r)) := by
      intro m
      induction m with
      | zero => intro _; simp
      | succ m ih =>
        intro hm'
        have := ih (by omega)
        rw [List.range_succ, List.map_append, List.map_append, List.sum_append, uptoAll_append]
        obtain ⟨q1, q2, q3, q4, q5, q6, q7⟩ := hr m (by omega)
        have hrow : L m + 1 ≤ Proofs.YtnonfejhkbaikaaDoor.Rows.uptoBulk (intRow (H := H) .u8 (A m) (L m) (Z m)) := by
          cases hA : A m with
          | none => have := q6 hA; simp only [intRow, Proofs.YtnonfejhkbaikaaDoor.Rows.uptoBulk]; omega
          | some x =>
            have h8 := upto_lits (H := H) ((Z m).take (L m))
            rw [List.length_take] at h8
            simp only [intRow, Proofs.YtnonfejhkbaikaaDoor.Rows.uptoBulk]
            omega
        simp only [List.map_cons, List.map_nil, List.sum_cons, List.sum_nil, Proofs.YtnonfejhkbaikaaDoor.Rows.uptoBulkAll]
        omega
    have := key n (Nat.le_refl _)
    simp only [Proofs.YtnonfejhkbaikaaDoor.Rows.uptoBulk]
    omega

end Go.G
