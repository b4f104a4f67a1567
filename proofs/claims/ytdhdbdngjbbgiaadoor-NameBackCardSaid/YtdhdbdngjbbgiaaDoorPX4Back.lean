/- NameBack: who and inc of a temp are told as they were: the card itself, for every input. -/
import Derived.Test.YtdhdbdngjbbgiaaDoorPTB
import Derived.Test.YtdhdbdngjbbgiaaDoorPR1
import Derived.Test.YtdhdbdngjbbgiaaDoorPL4
import Derived.Test.YtdhdbdngjbbgiaaDoorCards
import Derived.Test.YtdhdbdngjbbgiaaDoorTie
import Derived.Lay
import Derived.LaidOnce
import Derived.SevenTiedAt
namespace Go.Proofs.YtdhdbdngjbbgiaaDoor.nameBack
open Go.Ab Go.G Go.RowKit Go.ChangeShapes Go.WideShapes Go.ChangeAt
set_option linter.unusedVariables false
set_option maxRecDepth 100000

theorem contract (H : Type) (enc : TypeId × Value → H) (W : World) (base : Nat) (args : Array Value) (ds gs : List (DataW H)) (before : List MemPlace)
    (hval : ∀ (j : Nat) t v, Tryd.f12.params[j]? = some t → args[j]? = some v → Value.okWide Tryd.prog W .any base t v)
    (hW : DataW.Whole enc Tryd.prog Tryd.f12.params.toList Rows.nameBackSpec.vars false W args.toList ds gs before) (hSh : W.ShapedOpen Tryd.prog) (hLd : laidMetH Tryd.prog Rows.nameBackRow.laid W) :
    Calls Tryd.prog 12 args W fun e W' => ∃ v, e = .returned v ∧ Rows.nameBackSpec.post enc Tryd.prog Tryd.f12 false true false false W args v W' := by
  have hW' := hW
  obtain ⟨p, q, hA0, hV, rfl, hfz, hnd⟩ := hW
  have hA : DataW.TrodAll enc Tryd.prog W 0 (fun _ => true) true [Ty.int, Ty.int, Ty.int, Ty.int] args.toList ds p := hA0
  obtain ⟨x, y, LT⟩ := tabs_lay hSh (by kernel_rfl) hLd (List.mem_of_getElem? (show Rows.nameBackRow.laid[5]? = some _ from rfl)) (List.mem_of_getElem? (show Rows.nameBackRow.laid[4]? = some _ from rfl)) (List.mem_of_getElem? (show Rows.nameBackRow.laid[2]? = some _ from rfl))
  obtain ⟨v0, vs0, d0, ds0, p0, q0, hargs, rfl, rfl, h0, r0⟩ := trodAll_cons hA
  obtain ⟨v1, vs1, d1, ds1, p1, q1, rfl, rfl, rfl, h1, r1⟩ := trodAll_cons r0
  obtain ⟨v2, vs2, d2, ds2, p2, q2, rfl, rfl, rfl, h2, r2⟩ := trodAll_cons r1
  obtain ⟨v3, vs3, d3, ds3, p3, q3, rfl, rfl, rfl, h3, r3⟩ := trodAll_cons r2
  obtain ⟨rfl, rfl, rfl⟩ := trodAll_nil r3
  obtain rfl : args = #[v0, v1, v2, v3] := by apply Array.toList_inj.1; simpa using hargs
  obtain ⟨rfl, rfl⟩ := trodVars_none hV
  have g0 : Value.okWide Tryd.prog W .any base Ty.int v0 := hval 0 _ v0 rfl rfl
  have g1 : Value.okWide Tryd.prog W .any base Ty.int v1 := hval 1 _ v1 rfl rfl
  have g2 : Value.okWide Tryd.prog W .any base Ty.int v2 := hval 2 _ v2 rfl rfl
  have g3 : Value.okWide Tryd.prog W .any base Ty.int v3 := hval 3 _ v3 rfl rfl
  obtain ⟨n0, rfl, rfl, rfl, wn0⟩ := open_int U.int g0 h0
  obtain ⟨n1, rfl, rfl, rfl, wn1⟩ := open_int U.int g1 h1
  obtain ⟨n2, rfl, rfl, rfl, wn2⟩ := open_int U.int g2 h2
  obtain ⟨n3, rfl, rfl, rfl, wn3⟩ := open_int U.int g3 h3
  have hn0 : -9223372036854775808 ≤ n0 ∧ n0 ≤ 9223372036854775807 := by simpa [Lit.wf, IntKind.min, IntKind.max, IntKind.signed, IntKind.bits] using wn0
  have hn1 : -9223372036854775808 ≤ n1 ∧ n1 ≤ 9223372036854775807 := by simpa [Lit.wf, IntKind.min, IntKind.max, IntKind.signed, IntKind.bits] using wn1
  have hn2 : -9223372036854775808 ≤ n2 ∧ n2 ≤ 9223372036854775807 := by simpa [Lit.wf, IntKind.min, IntKind.max, IntKind.signed, IntKind.bits] using wn2
  have hn3 : -9223372036854775808 ≤ n3 ∧ n3 ≤ 9223372036854775807 := by simpa [Lit.wf, IntKind.min, IntKind.max, IntKind.signed, IntKind.bits] using wn3
  have run := NameBack_ok (Tb_MT x y (Ch.refl _ _)) (a := n0) (b := n1) (c := n2) (d := n3)
  have hargs2 : LRel (VRel Tryd.prog μ00 W.shape?) (#[.int .i64 n0, .int .i64 n1, .int .i64 n2, .int .i64 n3] : Array Value).toList (#[.int .i64 n0, .int .i64 n1, .int .i64 n2, .int .i64 n3] : Array Value).toList :=
    LRel.cons (VRel.of_B ⟨rfl, rfl⟩) (LRel.cons (VRel.of_B ⟨rfl, rfl⟩) (LRel.cons (VRel.of_B ⟨rfl, rfl⟩) (LRel.cons (VRel.of_B ⟨rfl, rfl⟩) (LRel.nil _))))
  refine (calls_of run LT hargs2).mono fun e W' ⟨he, hB⟩ => ?_
  exact ⟨_, he, post_true (tb := 4) laid_out rfl (by kernel_rfl) (by kernel_rfl) rfl rfl hW' hB⟩

theorem lifted (os : Os) (started : os.Started) (H : Type) (enc : TypeId × Value → H) :
    ReturnsInHanded {} Tryd.checked os 12 .any (fun w args => (Rows.nameBackSpec.pre enc Tryd.prog Tryd.f12 Rows.nameBackRow.domain false w args ∧ laidMetH Tryd.prog Rows.nameBackRow.laid w) ∧ sizedMet enc Tryd.prog Tryd.f12 (OpenSpec.ofChange Rows.nameBackSpec) false w args) (Rows.nameBackSpec.post enc Tryd.prog Tryd.f12 false true false false) := by
  refine returns_shaped (C := Tryd.checked) (X := fun w _ => laidMetH Tryd.prog Rows.nameBackRow.laid w) (fun _ _ _ hh h => h.of_heap hh) own_knob started (by kernel_rfl) Tryd.func12
    (ChangeSpec.witness_shaped (enc := enc) (C := Tryd.checked) (os := os) (X := fun w _ => laidMetH Tryd.prog Rows.nameBackRow.laid w) false (World.laidAll Tryd.prog os Rows.nameBackRow.laid) #[.int .i64 0, .int .i64 0, .int .i64 0, .int .i64 0] 8 (World.laidAll_os _ _ _)
      (World.shaped_of_ZipB (by kernel_rfl) (by kernel_rfl)) (by kernel_rfl) (by kernel_rfl) (by kernel_rfl)
      (by rw [MakeChecks.laidMetH_plain _ _ _ (by kernel_rfl)]; exact laidMet_laidAll _ (by kernel_rfl) (by kernel_rfl))) ?_
  intro W base args ds gs before hSh hLd hval hW
  exact contract H enc W base args ds gs before hval hW hSh hLd

theorem row_holds : Rows.nameBackRow.holds Tryd.pinned (OpenSpec.ofChange Rows.nameBackSpec) :=
  OpenClaim.holds_of_wide 12 Tryd.f12 rfl rfl rfl rfl rfl rfl rfl ⟨rfl, rfl, rfl, rfl, rfl⟩ rfl rfl rfl rfl rfl (by kernel_rfl) Tryd.func12 (by kernel_rfl)
    (of_decide_eq_true (by kernel_rfl)) (by unfold Func.isWrapper; first | (rw [if_pos (by decide +kernel)]; kernel_rfl) | (rw [if_neg (by decide +kernel)]; exact ⟨rfl, rfl⟩))
    (fun os started H enc _ => lifted os started H enc)

theorem proved : Rows.NameBackCardSaid :=
  Claim7.holds_tied_plain_at .later [] [.data, .data, .data, .data, .sentinel, .sentinel, .pinned] true (true, "f7e1dc6c36cbb00591176a7f0d25a78ebaefc4142e4cb95488d7515175621942") true row_holds (fun _ h => by cases h) (by kernel_rfl) (fun _ h => by cases h) nameBack_row_tie rfl ⟨rfl, rfl⟩ (by kernel_rfl) rfl
    (fun f fn hf hfn => by
      obtain rfl : f = 12 := Option.some.inj ((show Tryd.prog.funcNamed "fettle/fettlelaw4.NameBack" = some 12 by kernel_rfl).symm.trans hf) |>.symm
      obtain rfl : fn = Tryd.f12 := (Option.some.inj (Tryd.func12.symm.trans hfn)).symm
      exact ⟨by kernel_rfl, fun j t ht => by
        have hm : t ∈ [Ty.int, Ty.int, Ty.int, Ty.int] := by simpa using Array.mem_of_getElem? (show (#[Ty.int, Ty.int, Ty.int, Ty.int] : Array TypeId)[j]? = some t from ht)
        have hall : ([Ty.int, Ty.int, Ty.int, Ty.int].all fun u => !Tryd.prog.wantsStandIn u) = true := by kernel_rfl
        exact (show Tryd.prog.wantsStandIn t = false by simpa using List.all_eq_true.1 hall t hm)⟩)
    (by kernel_rfl)
end Go.Proofs.YtdhdbdngjbbgiaaDoor.nameBack
