/- PlanFails joined to its row. -/
import Derived.Test.YtnonfejhkbaikaaPAW
import Derived.Test.YtnonfejhkbaikaaPR0
import Derived.Test.YtnonfejhkbaikaaPR1
import Derived.Test.YtnonfejhkbaikaaPY18s
namespace Go.Proofs.Ytnonfejhkbaikaa.planFails
open Go.Ab Go.G Go.RowKit Go.ChangeShapes Go.WideShapes Go.ChangeAt
set_option linter.unusedVariables false
set_option maxRecDepth 100000
theorem Ga (H : Type) (enc : TypeId × Value → H) (W : World) (base : Nat) (args : Array Value) (ds gs : List (DataW H)) (before : List MemPlace)
    (hval : ∀ (j : Nat) t v, Try.f8.params[j]? = some t → args[j]? = some v → Value.okWide Try.prog W .any base t v)
    (hW : DataW.Whole enc Try.prog Try.f8.params.toList Rows.planFailsSpec.vars false W args.toList ds gs before) :
    Calls Try.prog 8 args W fun e W' => ∃ v, e = .returned v ∧ Rows.planFailsSpec.post enc Try.prog Try.f8 false true false false W args v W' := by
 have hW' := hW
 obtain ⟨p, q, hA0, hV, rfl, hfz, hnd⟩ := hW
 have hA : DataW.TrodAll enc Try.prog W 0 (fun _ => true) true [Ty.i, Ty.b] args.toList ds p := hA0
 obtain ⟨v0, vs0, d0, ds0, p0, q0, hargs, rfl, rfl, h0, r0⟩ := trodAll_cons hA
 obtain ⟨v1, vs1, d1, ds1, p1, q1, rfl, rfl, rfl, h1, r1⟩ := trodAll_cons r0
 obtain ⟨rfl, rfl, rfl⟩ := trodAll_nil r1
 obtain rfl : args = #[v0, v1] := by apply Array.toList_inj.1; simpa using hargs
 obtain ⟨rfl, rfl⟩ := trodVars_none hV
 have g0 : Value.okWide Try.prog W .any base Ty.i v0 := hval 0 _ v0 rfl rfl
 have g1 : Value.okWide Try.prog W .any base Ty.b v1 := hval 1 _ v1 rfl rfl
 obtain ⟨n1, rfl, rfl, rfl, wn1⟩ := open_int U.d g1 h1
 obtain ⟨μ0, M0, a0, l0, L0, m0, u0, e0, b0, s0⟩ := Hx (Lay.start W) g0 h0
 have hn1 : -9223372036854775808 ≤ n1 ∧ n1 ≤ 9223372036854775807 := by simpa [Lit.wf, IntKind.min, IntKind.max, IntKind.signed, IntKind.bits] using wn1
 have run := zi (M := M0) (r0 := n1) (b0)
 have hargs2 : LRel (VRel Try.prog μ0 W.shape?) (#[v0, .int .i64 n1] : Array Value).toList (#[a0, .int .i64 n1] : Array Value).toList :=
  LRel.cons (e0) (LRel.cons (VRel.of_B ⟨rfl, rfl⟩) (LRel.nil _))
 refine (F8 run L0 hargs2).mono fun e W' ⟨he, hB⟩ => ?_
 exact ⟨_, he, Fo (tb := 4) Gj rfl (by kernel_rfl) (by kernel_rfl) rfl rfl hW' hB⟩
theorem IN (os : Os) (started : os.Started) (H : Type) (enc : TypeId × Value → H) :
    ReturnsInHanded {} Try.checked os 8 .any (Rows.planFailsSpec.pre6 enc Try.prog Try.f8 Rows.planFailsRow.domain false) (Rows.planFailsSpec.post enc Try.prog Try.f8 false true false false) := by
 refine returnsInHanded_of_change (C := Try.checked) Gu started (by kernel_rfl) Try.func8
  (ChangeSpec.witness6 (enc := enc) (C := Try.checked) false ⟨#[], #[.slice none 0 0, .int .i64 0], []⟩ 8 (by kernel_rfl) (by kernel_rfl) (by kernel_rfl) (by kernel_rfl)) ?_
 intro W base args ds gs before hval hW _ _
 exact Ga H enc W base args ds gs before hval hW
theorem JU : Rows.planFailsRow.holds Try.pinned (OpenSpec.ofChange Rows.planFailsSpec) :=
 OpenClaim.holds_of_wide 8 Try.f8 rfl rfl rfl rfl rfl rfl rfl ⟨rfl, rfl, rfl, rfl, rfl⟩ rfl rfl rfl rfl rfl (by kernel_rfl) Try.func8 (by kernel_rfl)
  (of_decide_eq_true (by kernel_rfl)) (by unfold Func.isWrapper; first | (rw [if_pos (by decide +kernel)]; kernel_rfl) | (rw [if_neg (by decide +kernel)]; exact ⟨rfl, rfl⟩))
  (fun os started H enc _ => IN os started H enc)
theorem proved : Rows.PlanFailsSaid :=
 JU
end Go.Proofs.Ytnonfejhkbaikaa.planFails
