/- PlanEnds joined to its row. -/
import Derived.Test.YtnonfejhkbaikaaPAW
import Derived.Test.YtnonfejhkbaikaaPR0
import Derived.Test.YtnonfejhkbaikaaPR1
import Derived.Test.YtnonfejhkbaikaaPY18q
namespace Go.Proofs.Ytnonfejhkbaikaa.planEnds
open Go.Ab Go.G Go.RowKit Go.ChangeShapes Go.WideShapes Go.ChangeAt
set_option linter.unusedVariables false
set_option maxRecDepth 100000
theorem GC (H : Type) (enc : TypeId × Value → H) (W : World) (base : Nat) (args : Array Value) (ds gs : List (DataW H)) (before : List MemPlace)
    (hval : ∀ (j : Nat) t v, Try.f9.params[j]? = some t → args[j]? = some v → Value.okWide Try.prog W .any base t v)
    (hW : DataW.Whole enc Try.prog Try.f9.params.toList Rows.planEndsSpec.vars false W args.toList ds gs before) :
    Calls Try.prog 9 args W fun e W' => ∃ v, e = .returned v ∧ Rows.planEndsSpec.post enc Try.prog Try.f9 false true false false W args v W' := by
 have hW' := hW
 obtain ⟨p, q, hA0, hV, rfl, hfz, hnd⟩ := hW
 have hA : DataW.TrodAll enc Try.prog W 0 (fun _ => true) true [Ty.h, Ty.h] args.toList ds p := hA0
 obtain ⟨v0, vs0, d0, ds0, p0, q0, hargs, rfl, rfl, h0, r0⟩ := trodAll_cons hA
 obtain ⟨v1, vs1, d1, ds1, p1, q1, rfl, rfl, rfl, h1, r1⟩ := trodAll_cons r0
 obtain ⟨rfl, rfl, rfl⟩ := trodAll_nil r1
 obtain rfl : args = #[v0, v1] := by apply Array.toList_inj.1; simpa using hargs
 obtain ⟨rfl, rfl⟩ := trodVars_none hV
 have g0 : Value.okWide Try.prog W .any base Ty.h v0 := hval 0 _ v0 rfl rfl
 have g1 : Value.okWide Try.prog W .any base Ty.h v1 := hval 1 _ v1 rfl rfl
 obtain ⟨μ0, M0, a0, l0, L0, m0, u0, e0, b0, s0⟩ := CP (Lay.start W) g0 h0
 obtain ⟨μ1, M1, a1, l1, L1, m1, u1, e1, b1, s1⟩ := CP L0 g1 h1
 have run := BA (M := M1) (Sl.up b0 u1) (b1)
 have hargs2 : LRel (VRel Try.prog μ1 W.shape?) (#[v0, v1] : Array Value).toList (#[a0, a1] : Array Value).toList :=
  LRel.cons (e0.mono m1 (.refl _)) (LRel.cons (e1) (LRel.nil _))
 refine (GA run L1 hargs2).mono fun e W' ⟨he, hB⟩ => ?_
 exact ⟨_, he, FS (tb := 4) GL rfl (by kernel_rfl) (by kernel_rfl) rfl rfl hW' hB⟩
theorem Jd (os : Os) (started : os.Started) (H : Type) (enc : TypeId × Value → H) :
    ReturnsInHanded {} Try.checked os 9 .any (Rows.planEndsSpec.pre6 enc Try.prog Try.f9 Rows.planEndsRow.domain false) (Rows.planEndsSpec.post enc Try.prog Try.f9 false true false false) := by
 refine returnsInHanded_of_change (C := Try.checked) GW started (by kernel_rfl) Try.func9
  (ChangeSpec.witness6 (enc := enc) (C := Try.checked) false ⟨#[], #[.slice none 0 0, .slice none 0 0], []⟩ 8 (by kernel_rfl) (by kernel_rfl) (by kernel_rfl) (by kernel_rfl)) ?_
 intro W base args ds gs before hval hW _ _
 exact GC H enc W base args ds gs before hval hW
theorem Ki : Rows.planEndsRow.holds Try.pinned (OpenSpec.ofChange Rows.planEndsSpec) :=
 OpenClaim.holds_of_wide 9 Try.f9 rfl rfl rfl rfl rfl rfl rfl ⟨rfl, rfl, rfl, rfl, rfl⟩ rfl rfl rfl rfl rfl (by kernel_rfl) Try.func9 (by kernel_rfl)
  (of_decide_eq_true (by kernel_rfl)) (by unfold Func.isWrapper; first | (rw [if_pos (by decide +kernel)]; kernel_rfl) | (rw [if_neg (by decide +kernel)]; exact ⟨rfl, rfl⟩))
  (fun os started H enc _ => Jd os started H enc)
theorem proved : Rows.PlanEndsSaid :=
 Ki
end Go.Proofs.Ytnonfejhkbaikaa.planEnds
