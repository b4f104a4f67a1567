/- SweeList by its runs, joined to its row. -/
import Derived.Test.YtjchjhkhopcalaaGreatDoorPTB
import Derived.Test.YtjchjhkhopcalaaGreatDoorPF19S
import Derived.Test.YtjchjhkhopcalaaGreatDoorCards
import Derived.Test.YtjchjhkhopcalaaGreatDoorTie
import Derived.Lay
import Derived.LaidOnce
import Derived.SevenTiedAt
namespace Go.Proofs.YtjchjhkhopcalaaGreatDoor.sweeList
open Go.Ab Go.G Go.RowKit Go.ChangeShapes Go.WideShapes Go.ChangeAt
set_option linter.unusedVariables false
set_option maxRecDepth 100000
theorem bT (H : Type) (enc : TypeId × Value → H) (W : World) (base : Nat) (args : Array Value) (ds gs : List (DataW H)) (before : List MemPlace)
    (hval : ∀ (j : Nat) t v, Tryz.f3.params[j]? = some t → args[j]? = some v → Value.okWide Tryz.prog W .any base t v)
    (hW : DataW.Whole enc Tryz.prog Tryz.f3.params.toList Rows.sweeListSpec.vars false W args.toList ds gs before) (hSh : W.ShapedOpen Tryz.prog) (hLd : laidMetH Tryz.prog Rows.sweeListRow.laid W) :
    Calls Tryz.prog 3 args W fun e W' => ∃ v, e = .returned v ∧ Rows.sweeListSpec.post enc Tryz.prog Tryz.f3 false true false false W args v W' := by
 have hW' := hW
 obtain ⟨p, q, hA0, hV, rfl, hfz, hnd⟩ := hW
 have hA : DataW.TrodAll enc Tryz.prog W 0 (fun _ => true) true [Ty.a, Ty.a] args.toList ds p := hA0
 obtain ⟨v0, vs0, d0, ds0, p0, q0, hargs, rfl, rfl, h0, r0⟩ := trodAll_cons hA
 obtain ⟨v1, vs1, d1, ds1, p1, q1, rfl, rfl, rfl, h1, r1⟩ := trodAll_cons r0
 obtain ⟨rfl, rfl, rfl⟩ := trodAll_nil r1
 obtain rfl : args = #[v0, v1] := by apply Array.toList_inj.1; simpa using hargs
 obtain ⟨rfl, rfl⟩ := trodVars_none hV
 have g0 : Value.okWide Tryz.prog W .any base Ty.a v0 := hval 0 _ v0 rfl rfl
 have g1 : Value.okWide Tryz.prog W .any base Ty.a v1 := hval 1 _ v1 rfl rfl
 obtain ⟨n0, rfl, rfl, rfl, wn0⟩ := open_int U.a g0 h0
 obtain ⟨n1, rfl, rfl, rfl, wn1⟩ := open_int U.a g1 h1
 have hn0 : -9223372036854775808 ≤ n0 ∧ n0 ≤ 9223372036854775807 := by simpa [Lit.wf, IntKind.min, IntKind.max, IntKind.signed, IntKind.bits] using wn0
 have hn1 : -9223372036854775808 ≤ n1 ∧ n1 ≤ 9223372036854775807 := by simpa [Lit.wf, IntKind.min, IntKind.max, IntKind.signed, IntKind.bits] using wn1
 have hargs2 : LRel (VRel Tryz.prog cP W.shape?) (#[.int .i64 n0, .int .i64 n1] : Array Value).toList (#[.int .i64 n0, .int .i64 n1] : Array Value).toList :=
  LRel.cons (VRel.of_B ⟨rfl, rfl⟩) (LRel.cons (VRel.of_B ⟨rfl, rfl⟩) (LRel.nil _))
 refine (sweeList.calls (Lay.start W (there hSh)) hargs2).mono fun e W' ⟨he, hB⟩ => ?_
 exact ⟨_, he, er (tb := 4) fa rfl (by kernel_rfl) (by kernel_rfl) rfl rfl hW' hB⟩
theorem fc (os : Os) (started : os.Started) (H : Type) (enc : TypeId × Value → H) :
    ReturnsInHanded {} Tryz.checked os 3 .any (fun w args => (Rows.sweeListSpec.pre enc Tryz.prog Tryz.f3 Rows.sweeListRow.domain false w args ∧ laidMetH Tryz.prog Rows.sweeListRow.laid w) ∧ sizedMet enc Tryz.prog Tryz.f3 (OpenSpec.ofChange Rows.sweeListSpec) false w args) (Rows.sweeListSpec.post enc Tryz.prog Tryz.f3 false true false false) := by
 refine cD (C := Tryz.checked) (X := fun w _ => laidMetH Tryz.prog Rows.sweeListRow.laid w) (fun _ _ _ hh h => h.of_heap hh) fh started (by kernel_rfl) Tryz.func3
  (ChangeSpec.witness_shaped (enc := enc) (C := Tryz.checked) (os := os) (X := fun w _ => laidMetH Tryz.prog Rows.sweeListRow.laid w) false (World.laidAll Tryz.prog os Rows.sweeListRow.laid) #[.int .i64 0, .int .i64 0] 8 (World.laidAll_os _ _ _)
   (World.shaped_of_ZipB (by kernel_rfl) (by kernel_rfl)) (by kernel_rfl) (by kernel_rfl) (by kernel_rfl)
   (by rw [MakeChecks.laidMetH_plain _ _ _ (by kernel_rfl)]; exact laidMet_laidAll _ (by kernel_rfl) (by kernel_rfl))) ?_
 intro W base args ds gs before hSh hLd hval hW
 exact bT H enc W base args ds gs before hval hW hSh hLd
theorem c7 : Rows.sweeListRow.holds Tryz.pinned (OpenSpec.ofChange Rows.sweeListSpec) :=
 OpenClaim.holds_of_wide 3 Tryz.f3 rfl rfl rfl rfl rfl rfl rfl ⟨rfl, rfl, rfl, rfl, rfl⟩ rfl rfl rfl rfl rfl (by kernel_rfl) Tryz.func3 (by kernel_rfl)
  (of_decide_eq_true (by kernel_rfl)) (by unfold Func.isWrapper; first | (rw [if_pos (by decide +kernel)]; kernel_rfl) | (rw [if_neg (by decide +kernel)]; exact ⟨rfl, rfl⟩))
  (fun os started H enc _ => fc os started H enc)
theorem proved : Rows.SweeListCardSaid :=
 Claim7.holds_tied_plain_at .later [] [.data, .data, .data, .data, .sentinel, .sentinel, .pinned] true (true, "578901d41e7f04aee3abcdd7b675d9038c1af39f7aa8798b5191192637c503f9") true c7 (fun _ h => by cases h) (by kernel_rfl) (fun _ h => by cases h) sweeList_row_tie rfl ⟨rfl, rfl⟩ (by kernel_rfl) rfl
  (fun f fn hf hfn => by
   obtain rfl : f = 3 := Option.some.inj ((show Tryz.prog.funcNamed "fettle/fettlelaw19.SweeList" = some 3 by kernel_rfl).symm.trans hf) |>.symm
   obtain rfl : fn = Tryz.f3 := (Option.some.inj (Tryz.func3.symm.trans hfn)).symm
   exact ⟨by kernel_rfl, fun j t ht => by
    have hm : t ∈ [Ty.a, Ty.a] := by simpa using Array.mem_of_getElem? (show (#[Ty.a, Ty.a] : Array TypeId)[j]? = some t from ht)
    have hall : ([Ty.a, Ty.a].all fun u => !Tryz.prog.wantsStandIn u) = true := by kernel_rfl
    exact (show Tryz.prog.wantsStandIn t = false by simpa using List.all_eq_true.1 hall t hm)⟩)
  (by kernel_rfl)
end Go.Proofs.YtjchjhkhopcalaaGreatDoor.sweeList
