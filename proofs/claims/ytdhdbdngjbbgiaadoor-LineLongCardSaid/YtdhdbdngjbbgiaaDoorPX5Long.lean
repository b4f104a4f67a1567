/- LineLong: words are as long as may be, and no longer: the card itself, for every input. -/
import Derived.Test.YtdhdbdngjbbgiaaDoorPTB
import Derived.Test.YtdhdbdngjbbgiaaDoorPR1
import Derived.Test.YtdhdbdngjbbgiaaDoorPL5b
import Derived.Test.YtdhdbdngjbbgiaaDoorCards
import Derived.Test.YtdhdbdngjbbgiaaDoorTie
import Derived.Lay
import Derived.LaidOnce
import Derived.SevenTiedAt
namespace Go.Proofs.YtdhdbdngjbbgiaaDoor.lineLong
open Go.Ab Go.G Go.RowKit Go.ChangeShapes Go.WideShapes Go.ChangeAt
set_option linter.unusedVariables false
set_option maxRecDepth 100000

theorem contract (H : Type) (enc : TypeId × Value → H) (W : World) (base : Nat) (args : Array Value) (ds gs : List (DataW H)) (before : List MemPlace)
    (hval : ∀ (j : Nat) t v, Tryd.f7.params[j]? = some t → args[j]? = some v → Value.okWide Tryd.prog W .any base t v)
    (hW : DataW.Whole enc Tryd.prog Tryd.f7.params.toList Rows.lineLongSpec.vars false W args.toList ds gs before) (hSh : W.ShapedOpen Tryd.prog) (hLd : laidMetH Tryd.prog Rows.lineLongRow.laid W) :
    Calls Tryd.prog 7 args W fun e W' => ∃ v, e = .returned v ∧ Rows.lineLongSpec.post enc Tryd.prog Tryd.f7 false true false false W args v W' := by
  have hW' := hW
  obtain ⟨p, q, hA0, hV, rfl, hfz, hnd⟩ := hW
  have hA : DataW.TrodAll enc Tryd.prog W 0 (fun _ => true) true [Ty.int, Ty.bool, Ty.int] args.toList ds p := hA0
  obtain ⟨v0, vs0, d0, ds0, p0, q0, hargs, rfl, rfl, h0, r0⟩ := trodAll_cons hA
  obtain ⟨v1, vs1, d1, ds1, p1, q1, rfl, rfl, rfl, h1, r1⟩ := trodAll_cons r0
  obtain ⟨v2, vs2, d2, ds2, p2, q2, rfl, rfl, rfl, h2, r2⟩ := trodAll_cons r1
  obtain ⟨rfl, rfl, rfl⟩ := trodAll_nil r2
  obtain rfl : args = #[v0, v1, v2] := by apply Array.toList_inj.1; simpa using hargs
  obtain ⟨rfl, rfl⟩ := trodVars_none hV
  have g0 : Value.okWide Tryd.prog W .any base Ty.int v0 := hval 0 _ v0 rfl rfl
  have g1 : Value.okWide Tryd.prog W .any base Ty.bool v1 := hval 1 _ v1 rfl rfl
  have g2 : Value.okWide Tryd.prog W .any base Ty.int v2 := hval 2 _ v2 rfl rfl
  obtain ⟨n0, rfl, rfl, rfl, wn0⟩ := open_int U.int g0 h0
  obtain ⟨n1, rfl, rfl, rfl⟩ := open_bool U.bool g1 h1
  obtain ⟨n2, rfl, rfl, rfl, wn2⟩ := open_int U.int g2 h2
  have hn0 : -9223372036854775808 ≤ n0 ∧ n0 ≤ 9223372036854775807 := by simpa [Lit.wf, IntKind.min, IntKind.max, IntKind.signed, IntKind.bits] using wn0
  have hn2 : -9223372036854775808 ≤ n2 ∧ n2 ≤ 9223372036854775807 := by simpa [Lit.wf, IntKind.min, IntKind.max, IntKind.signed, IntKind.bits] using wn2
  have run := LineLong_ok (M := M00) (n := n0) (q := n1) (ahead := n2)
  have hargs2 : LRel (VRel Tryd.prog μ00 W.shape?) (#[.int .i64 n0, .bool n1, .int .i64 n2] : Array Value).toList (#[.int .i64 n0, .bool n1, .int .i64 n2] : Array Value).toList :=
    LRel.cons (VRel.of_B ⟨rfl, rfl⟩) (LRel.cons (VRel.of_B rfl) (LRel.cons (VRel.of_B ⟨rfl, rfl⟩) (LRel.nil _)))
  refine (calls_of run (Lay.start W (there hSh)) hargs2).mono fun e W' ⟨he, hB⟩ => ?_
  exact ⟨_, he, post_true (tb := 4) laid_out rfl (by kernel_rfl) (by kernel_rfl) rfl rfl hW' hB⟩

theorem lifted (os : Os) (started : os.Started) (H : Type) (enc : TypeId × Value → H) :
    ReturnsInHanded {} Tryd.checked os 7 .any (fun w args => (Rows.lineLongSpec.pre enc Tryd.prog Tryd.f7 Rows.lineLongRow.domain false w args ∧ laidMetH Tryd.prog Rows.lineLongRow.laid w) ∧ sizedMet enc Tryd.prog Tryd.f7 (OpenSpec.ofChange Rows.lineLongSpec) false w args) (Rows.lineLongSpec.post enc Tryd.prog Tryd.f7 false true false false) := by
  refine returns_shaped (C := Tryd.checked) (X := fun w _ => laidMetH Tryd.prog Rows.lineLongRow.laid w) (fun _ _ _ hh h => h.of_heap hh) own_knob started (by kernel_rfl) Tryd.func7
    (ChangeSpec.witness_shaped (enc := enc) (C := Tryd.checked) (os := os) (X := fun w _ => laidMetH Tryd.prog Rows.lineLongRow.laid w) false (World.laidAll Tryd.prog os Rows.lineLongRow.laid) #[.int .i64 0, .bool false, .int .i64 0] 8 (World.laidAll_os _ _ _)
      (World.shaped_of_ZipB (by kernel_rfl) (by kernel_rfl)) (by kernel_rfl) (by kernel_rfl) (by kernel_rfl)
      (by rw [MakeChecks.laidMetH_plain _ _ _ (by kernel_rfl)]; exact laidMet_laidAll _ (by kernel_rfl) (by kernel_rfl))) ?_
  intro W base args ds gs before hSh hLd hval hW
  exact contract H enc W base args ds gs before hval hW hSh hLd

theorem row_holds : Rows.lineLongRow.holds Tryd.pinned (OpenSpec.ofChange Rows.lineLongSpec) :=
  OpenClaim.holds_of_wide 7 Tryd.f7 rfl rfl rfl rfl rfl rfl rfl ⟨rfl, rfl, rfl, rfl, rfl⟩ rfl rfl rfl rfl rfl (by kernel_rfl) Tryd.func7 (by kernel_rfl)
    (of_decide_eq_true (by kernel_rfl)) (by unfold Func.isWrapper; first | (rw [if_pos (by decide +kernel)]; kernel_rfl) | (rw [if_neg (by decide +kernel)]; exact ⟨rfl, rfl⟩))
    (fun os started H enc _ => lifted os started H enc)

theorem proved : Rows.LineLongCardSaid :=
  Claim7.holds_tied_plain_at .later [] [.data, .pinned] true (true, "f7e1dc6c36cbb00591176a7f0d25a78ebaefc4142e4cb95488d7515175621942") true row_holds (fun _ h => by cases h) (by kernel_rfl) (fun _ h => by cases h) lineLong_row_tie rfl ⟨rfl, rfl⟩ (by kernel_rfl) rfl
    (fun f fn hf hfn => by
      obtain rfl : f = 7 := Option.some.inj ((show Tryd.prog.funcNamed "fettle/fettlelaw5.LineLong" = some 7 by kernel_rfl).symm.trans hf) |>.symm
      obtain rfl : fn = Tryd.f7 := (Option.some.inj (Tryd.func7.symm.trans hfn)).symm
      exact ⟨by kernel_rfl, fun j t ht => by
        have hm : t ∈ [Ty.int, Ty.bool, Ty.int] := by simpa using Array.mem_of_getElem? (show (#[Ty.int, Ty.bool, Ty.int] : Array TypeId)[j]? = some t from ht)
        have hall : ([Ty.int, Ty.bool, Ty.int].all fun u => !Tryd.prog.wantsStandIn u) = true := by kernel_rfl
        exact (show Tryd.prog.wantsStandIn t = false by simpa using List.all_eq_true.1 hall t hm)⟩)
    (by kernel_rfl)
end Go.Proofs.YtdhdbdngjbbgiaaDoor.lineLong
