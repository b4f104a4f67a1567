/- OptnTells joined to its card. -/
import Derived.Test.YtnonfejhkbaikaaDoorPTB
import Derived.Test.YtnonfejhkbaikaaDoorPR1
import Derived.Test.YtnonfejhkbaikaaDoorPR1t
import Derived.Test.YtnonfejhkbaikaaDoorPR2o
import Derived.Test.YtnonfejhkbaikaaDoorPB21t
import Derived.Test.YtnonfejhkbaikaaDoorCards
import Derived.Test.YtnonfejhkbaikaaDoorTie
import Derived.Lay
import Derived.LaidOnce
import Derived.SevenTiedAt
namespace Go.Proofs.YtnonfejhkbaikaaDoor.optnTells
open Go.Ab Go.G Go.RowKit Go.ChangeShapes Go.WideShapes Go.ChangeAt
set_option linter.unusedVariables false
set_option maxRecDepth 100000

theorem contract (H : Type) (enc : TypeId × Value → H) (W : World) (base : Nat) (args : Array Value) (ds gs : List (DataW H)) (before : List MemPlace)
    (hval : ∀ (j : Nat) t v, Tryd.f4.params[j]? = some t → args[j]? = some v → Value.okWide Tryd.prog W .any base t v)
    (hW : DataW.Whole enc Tryd.prog Tryd.f4.params.toList Rows.optnTellsSpec.vars false W args.toList ds gs before) (hSh : W.ShapedOpen Tryd.prog) (hLd : laidMetH Tryd.prog Rows.optnTellsRow.laid W) :
    Calls Tryd.prog 4 args W fun e W' => ∃ v, e = .returned v ∧ Rows.optnTellsSpec.post enc Tryd.prog Tryd.f4 false true false false W args v W' := by
  have hW' := hW
  obtain ⟨p, q, hA0, hV, rfl, hfz, hnd⟩ := hW
  have hA : DataW.TrodAll enc Tryd.prog W 0 (fun _ => true) true [Ty.api_Options, Ty.sl_uint8, Ty.sl_int] args.toList ds p := hA0
  obtain ⟨v0, vs0, d0, ds0, p0, q0, hargs, rfl, rfl, h0, r0⟩ := trodAll_cons hA
  obtain ⟨v1, vs1, d1, ds1, p1, q1, rfl, rfl, rfl, h1, r1⟩ := trodAll_cons r0
  obtain ⟨v2, vs2, d2, ds2, p2, q2, rfl, rfl, rfl, h2, r2⟩ := trodAll_cons r1
  obtain ⟨rfl, rfl, rfl⟩ := trodAll_nil r2
  obtain rfl : args = #[v0, v1, v2] := by apply Array.toList_inj.1; simpa using hargs
  obtain ⟨rfl, rfl⟩ := trodVars_none hV
  have g0 : Value.okWide Tryd.prog W .any base Ty.api_Options v0 := hval 0 _ v0 rfl rfl
  have g1 : Value.okWide Tryd.prog W .any base Ty.sl_uint8 v1 := hval 1 _ v1 rfl rfl
  have g2 : Value.okWide Tryd.prog W .any base Ty.sl_int v2 := hval 2 _ v2 rfl rfl
  obtain ⟨μ0, M0, a0, l0, L0, m0, u0, e0, b0, s0⟩ := in_opts (Lay.start W (there hSh)) g0 h0
  obtain ⟨μ1, M1, a1, l1, L1, m1, u1, e1, b1, s1⟩ := in_bytes L0 g1 h1
  obtain ⟨μ2, M2, a2, l2, L2, m2, u2, e2, b2, s2⟩ := in_ints L1 g2 h2
  have run := OptnTells_ok (M := M2) ((b0.up u1).up u2) (Sl.up b1 u2) (b2)
  have hargs2 : LRel (VRel Tryd.prog μ2 W.shape?) (#[v0, v1, v2] : Array Value).toList (#[a0, a1, a2] : Array Value).toList :=
    LRel.cons ((e0.mono m1 (.refl _)).mono m2 (.refl _)) (LRel.cons (e1.mono m2 (.refl _)) (LRel.cons (e2) (LRel.nil _)))
  refine (calls_of run L2 hargs2).mono fun e W' ⟨he, hB⟩ => ?_
  exact ⟨_, he, post_true (tb := 4) laid_out rfl (by kernel_rfl) (by kernel_rfl) rfl rfl hW' hB⟩

theorem lifted (os : Os) (started : os.Started) (H : Type) (enc : TypeId × Value → H) :
    ReturnsInHanded {} Tryd.checked os 4 .any (fun w args => (Rows.optnTellsSpec.pre enc Tryd.prog Tryd.f4 Rows.optnTellsRow.domain false w args ∧ laidMetH Tryd.prog Rows.optnTellsRow.laid w) ∧ sizedMet enc Tryd.prog Tryd.f4 (OpenSpec.ofChange Rows.optnTellsSpec) false w args) (Rows.optnTellsSpec.post enc Tryd.prog Tryd.f4 false true false false) := by
  refine returns_shaped (C := Tryd.checked) (X := fun w _ => laidMetH Tryd.prog Rows.optnTellsRow.laid w) (fun _ _ _ hh h => h.of_heap hh) own_knob started (by kernel_rfl) Tryd.func4
    (ChangeSpec.witness_shaped (enc := enc) (C := Tryd.checked) (os := os) (X := fun w _ => laidMetH Tryd.prog Rows.optnTellsRow.laid w) false (World.laidAll Tryd.prog os Rows.optnTellsRow.laid) #[.agg #[.bool false, .bool false, .bool false, .slice none 0 0], .slice none 0 0, .slice none 0 0] 8 (World.laidAll_os _ _ _)
      (World.shaped_of_ZipB (by kernel_rfl) (by kernel_rfl)) (by kernel_rfl) (by kernel_rfl) (by kernel_rfl)
      (by rw [MakeChecks.laidMetH_plain _ _ _ (by kernel_rfl)]; exact laidMet_laidAll _ (by kernel_rfl) (by kernel_rfl))) ?_
  intro W base args ds gs before hSh hLd hval hW
  exact contract H enc W base args ds gs before hval hW hSh hLd

theorem row_holds : Rows.optnTellsRow.holds Tryd.pinned (OpenSpec.ofChange Rows.optnTellsSpec) :=
  OpenClaim.holds_of_wide 4 Tryd.f4 rfl rfl rfl rfl rfl rfl rfl ⟨rfl, rfl, rfl, rfl, rfl⟩ rfl rfl rfl rfl rfl (by kernel_rfl) Tryd.func4 (by kernel_rfl)
    (of_decide_eq_true (by kernel_rfl)) (by unfold Func.isWrapper; first | (rw [if_pos (by decide +kernel)]; kernel_rfl) | (rw [if_neg (by decide +kernel)]; exact ⟨rfl, rfl⟩))
    (fun os started H enc _ => lifted os started H enc)

theorem proved : Rows.OptnTellsCardSaid :=
  Claim7.holds_tied_plain_at .later [] [.data, .pinned] true (true, "6853d81ea04c95e0ed7b3ee0f5e89c31a662da9cfd0663f262e86b38fba23373") true row_holds (fun _ h => by cases h) (by kernel_rfl) (fun _ h => by cases h) optnTells_row_tie rfl ⟨rfl, rfl⟩ (by kernel_rfl) rfl
    (fun f fn hf hfn => by
      obtain rfl : f = 4 := Option.some.inj ((show Tryd.prog.funcNamed "fettle/fettlelaw21.OptnTells" = some 4 by kernel_rfl).symm.trans hf) |>.symm
      obtain rfl : fn = Tryd.f4 := (Option.some.inj (Tryd.func4.symm.trans hfn)).symm
      exact ⟨by kernel_rfl, fun j t ht => by
        have hm : t ∈ [Ty.api_Options, Ty.sl_uint8, Ty.sl_int] := by simpa using Array.mem_of_getElem? (show (#[Ty.api_Options, Ty.sl_uint8, Ty.sl_int] : Array TypeId)[j]? = some t from ht)
        have hall : ([Ty.api_Options, Ty.sl_uint8, Ty.sl_int].all fun u => !Tryd.prog.wantsStandIn u) = true := by kernel_rfl
        exact (show Tryd.prog.wantsStandIn t = false by simpa using List.all_eq_true.1 hall t hm)⟩)
    (by kernel_rfl)
end Go.Proofs.YtnonfejhkbaikaaDoor.optnTells
