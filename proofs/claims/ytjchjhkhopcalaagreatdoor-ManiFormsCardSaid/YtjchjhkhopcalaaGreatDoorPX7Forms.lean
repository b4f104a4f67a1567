/- ManiForms by its runs, joined to its row. -/
import Derived.Test.YtjchjhkhopcalaaGreatDoorPTB
import Derived.Test.YtjchjhkhopcalaaGreatDoorPF7
import Derived.Test.YtjchjhkhopcalaaGreatDoorCards
import Derived.Test.YtjchjhkhopcalaaGreatDoorTie
import Derived.Lay
import Derived.LaidOnce
import Derived.SevenTiedAt
namespace Go.Proofs.YtjchjhkhopcalaaGreatDoor.maniForms
open Go.Ab Go.G Go.RowKit Go.ChangeShapes Go.WideShapes Go.ChangeAt
set_option linter.unusedVariables false
set_option maxRecDepth 100000
theorem bT (H : Type) (enc : TypeId × Value → H) (W : World) (base : Nat) (args : Array Value) (ds gs : List (DataW H)) (before : List MemPlace)
    (hval : ∀ (j : Nat) t v, Tryz.f6.params[j]? = some t → args[j]? = some v → Value.okWide Tryz.prog W .any base t v)
    (hW : DataW.Whole enc Tryz.prog Tryz.f6.params.toList Rows.maniFormsSpec.vars false W args.toList ds gs before) (hSh : W.ShapedOpen Tryz.prog) (hLd : laidMetH Tryz.prog Rows.maniFormsRow.laid W) :
    Calls Tryz.prog 6 args W fun e W' => ∃ v, e = .returned v ∧ Rows.maniFormsSpec.post enc Tryz.prog Tryz.f6 false true false false W args v W' := by
 have hW' := hW
 obtain ⟨p, q, hA0, hV, rfl, hfz, hnd⟩ := hW
 have hA : DataW.TrodAll enc Tryz.prog W 0 (fun _ => true) true [Ty.a] args.toList ds p := hA0
 obtain ⟨v0, vs0, d0, ds0, p0, q0, hargs, rfl, rfl, h0, r0⟩ := trodAll_cons hA
 obtain ⟨rfl, rfl, rfl⟩ := trodAll_nil r0
 obtain rfl : args = #[v0] := by apply Array.toList_inj.1; simpa using hargs
 obtain ⟨rfl, rfl⟩ := trodVars_none hV
 have g0 : Value.okWide Tryz.prog W .any base Ty.a v0 := hval 0 _ v0 rfl rfl
 obtain ⟨n0, rfl, rfl, rfl, wn0⟩ := open_int U.a g0 h0
 have hn0 : -9223372036854775808 ≤ n0 ∧ n0 ≤ 9223372036854775807 := by simpa [Lit.wf, IntKind.min, IntKind.max, IntKind.signed, IntKind.bits] using wn0
 have hargs2 : LRel (VRel Tryz.prog cP W.shape?) (#[.int .i64 n0] : Array Value).toList (#[.int .i64 n0] : Array Value).toList :=
  LRel.cons (VRel.of_B ⟨rfl, rfl⟩) (LRel.nil _)
 refine (maniForms.calls (Lay.start W (there hSh)) hargs2).mono fun e W' ⟨he, hB⟩ => ?_
 exact ⟨_, he, er (tb := 4) fa rfl (by kernel_rfl) (by kernel_rfl) rfl rfl hW' hB⟩
theorem fc (os : Os) (started : os.Started) (H : Type) (enc : TypeId × Value → H) :
    ReturnsInHanded {} Tryz.checked os 6 .any (fun w args => (Rows.maniFormsSpec.pre enc Tryz.prog Tryz.f6 Rows.maniFormsRow.domain false w args ∧ laidMetH Tryz.prog Rows.maniFormsRow.laid w) ∧ sizedMet enc Tryz.prog Tryz.f6 (OpenSpec.ofChange Rows.maniFormsSpec) false w args) (Rows.maniFormsSpec.post enc Tryz.prog Tryz.f6 false true false false) := by
 refine cD (C := Tryz.checked) (X := fun w _ => laidMetH Tryz.prog Rows.maniFormsRow.laid w) (fun _ _ _ hh h => h.of_heap hh) fh started (by kernel_rfl) Tryz.func6
  (ChangeSpec.witness_shaped (enc := enc) (C := Tryz.checked) (os := os) (X := fun w _ => laidMetH Tryz.prog Rows.maniFormsRow.laid w) false (World.laidAll Tryz.prog os Rows.maniFormsRow.laid) #[.int .i64 0] 8 (World.laidAll_os _ _ _)
   (World.shaped_of_ZipB (by kernel_rfl) (by kernel_rfl)) (by kernel_rfl) (by kernel_rfl) (by kernel_rfl)
   (by rw [MakeChecks.laidMetH_plain _ _ _ (by kernel_rfl)]; exact laidMet_laidAll _ (by kernel_rfl) (by kernel_rfl))) ?_
 intro W base args ds gs before hSh hLd hval hW
 exact bT H enc W base args ds gs before hval hW hSh hLd
theorem c7 : Rows.maniFormsRow.holds Tryz.pinned (OpenSpec.ofChange Rows.maniFormsSpec) :=
 OpenClaim.holds_of_wide 6 Tryz.f6 rfl rfl rfl rfl rfl rfl rfl ⟨rfl, rfl, rfl, rfl, rfl⟩ rfl rfl rfl rfl rfl (by kernel_rfl) Tryz.func6 (by kernel_rfl)
  (of_decide_eq_true (by kernel_rfl)) (by unfold Func.isWrapper; first | (rw [if_pos (by decide +kernel)]; kernel_rfl) | (rw [if_neg (by decide +kernel)]; exact ⟨rfl, rfl⟩))
  (fun os started H enc _ => fc os started H enc)
theorem proved : Rows.ManiFormsCardSaid :=
 Claim7.holds_tied_plain_at .later [] [.data, .data, .data, .data, .sentinel, .sentinel, .pinned] true (true, "578901d41e7f04aee3abcdd7b675d9038c1af39f7aa8798b5191192637c503f9") true c7 (fun _ h => by cases h) (by kernel_rfl) (fun _ h => by cases h) maniForms_row_tie rfl ⟨rfl, rfl⟩ (by kernel_rfl) rfl
  (fun f fn hf hfn => by
   obtain rfl : f = 6 := Option.some.inj ((show Tryz.prog.funcNamed "fettle/fettlelaw7.ManiForms" = some 6 by kernel_rfl).symm.trans hf) |>.symm
   obtain rfl : fn = Tryz.f6 := (Option.some.inj (Tryz.func6.symm.trans hfn)).symm
   exact ⟨by kernel_rfl, fun j t ht => by
    have hm : t ∈ [Ty.a] := by simpa using Array.mem_of_getElem? (show (#[Ty.a] : Array TypeId)[j]? = some t from ht)
    have hall : ([Ty.a].all fun u => !Tryz.prog.wantsStandIn u) = true := by kernel_rfl
    exact (show Tryz.prog.wantsStandIn t = false by simpa using List.all_eq_true.1 hall t hm)⟩)
  (by kernel_rfl)
end Go.Proofs.YtjchjhkhopcalaaGreatDoor.maniForms
