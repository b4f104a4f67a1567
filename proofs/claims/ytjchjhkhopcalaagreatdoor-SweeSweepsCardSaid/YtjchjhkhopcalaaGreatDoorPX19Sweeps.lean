/- SweeSweeps joined to its row. -/
import Derived.Test.YtjchjhkhopcalaaGreatDoorPTB
import Derived.Test.YtjchjhkhopcalaaGreatDoorPR1
import Derived.Test.YtjchjhkhopcalaaGreatDoorPZ19h
import Derived.Test.YtjchjhkhopcalaaGreatDoorCards
import Derived.Test.YtjchjhkhopcalaaGreatDoorTie
import Derived.Lay
import Derived.LaidOnce
import Derived.SevenTiedAt
namespace Go.Proofs.YtjchjhkhopcalaaGreatDoor.sweeSweeps
open Go.Ab Go.G Go.RowKit Go.ChangeShapes Go.WideShapes Go.ChangeAt
set_option linter.unusedVariables false
set_option maxRecDepth 100000
theorem ky (H : Type) (enc : TypeId × Value → H) (W : World) (base : Nat) (args : Array Value) (ds gs : List (DataW H)) (before : List MemPlace)
    (hval : ∀ (j : Nat) t v, Tryz.f4.params[j]? = some t → args[j]? = some v → Value.okWide Tryz.prog W .any base t v)
    (hW : DataW.Whole enc Tryz.prog Tryz.f4.params.toList Rows.sweeSweepsSpec.vars false W args.toList ds gs before) (hSh : W.ShapedOpen Tryz.prog) (hLd : laidMetH Tryz.prog Rows.sweeSweepsRow.laid W) :
    Calls Tryz.prog 4 args W fun e W' => ∃ v, e = .returned v ∧ Rows.sweeSweepsSpec.post enc Tryz.prog Tryz.f4 false true false false W args v W' := by
 have hW' := hW
 obtain ⟨p, q, hA0, hV, rfl, hfz, hnd⟩ := hW
 have hA : DataW.TrodAll enc Tryz.prog W 0 (fun _ => true) true [Ty.g, Ty.f, Ty.f] args.toList ds p := hA0
 obtain ⟨x, y, LT⟩ := sa hSh (by kernel_rfl) hLd (List.mem_of_getElem? (show Rows.sweeSweepsRow.laid[5]? = some _ from rfl)) (List.mem_of_getElem? (show Rows.sweeSweepsRow.laid[4]? = some _ from rfl)) (List.mem_of_getElem? (show Rows.sweeSweepsRow.laid[2]? = some _ from rfl))
 obtain ⟨v0, vs0, d0, ds0, p0, q0, hargs, rfl, rfl, h0, r0⟩ := trodAll_cons hA
 obtain ⟨v1, vs1, d1, ds1, p1, q1, rfl, rfl, rfl, h1, r1⟩ := trodAll_cons r0
 obtain ⟨v2, vs2, d2, ds2, p2, q2, rfl, rfl, rfl, h2, r2⟩ := trodAll_cons r1
 obtain ⟨rfl, rfl, rfl⟩ := trodAll_nil r2
 obtain rfl : args = #[v0, v1, v2] := by apply Array.toList_inj.1; simpa using hargs
 obtain ⟨rfl, rfl⟩ := trodVars_none hV
 have g0 : Value.okWide Tryz.prog W .any base Ty.g v0 := hval 0 _ v0 rfl rfl
 have g1 : Value.okWide Tryz.prog W .any base Ty.f v1 := hval 1 _ v1 rfl rfl
 have g2 : Value.okWide Tryz.prog W .any base Ty.f v2 := hval 2 _ v2 rfl rfl
 obtain ⟨n1, rfl, rfl, rfl, wn1⟩ := open_int U.e g1 h1
 obtain ⟨n2, rfl, rfl, rfl, wn2⟩ := open_int U.e g2 h2
 obtain ⟨μ0, M0, a0, l0, L0, m0, u0, e0, b0, s0⟩ := tf LT g0 h0
 have hn1 : -9223372036854775808 ≤ n1 ∧ n1 ≤ 9223372036854775807 := by simpa [Lit.wf, IntKind.min, IntKind.max, IntKind.signed, IntKind.bits] using wn1
 have hn2 : -9223372036854775808 ≤ n2 ∧ n2 ≤ 9223372036854775807 := by simpa [Lit.wf, IntKind.min, IntKind.max, IntKind.signed, IntKind.bits] using wn2
 have run := mT (M := M0) (tH x y u0) (u0.n) (n1 := n1) (n2 := n2) (b0)
 have hargs2 : LRel (VRel Tryz.prog μ0 W.shape?) (#[v0, .int .i64 n1, .int .i64 n2] : Array Value).toList (#[a0, .int .i64 n1, .int .i64 n2] : Array Value).toList :=
  LRel.cons (e0) (LRel.cons (VRel.of_B ⟨rfl, rfl⟩) (LRel.cons (VRel.of_B ⟨rfl, rfl⟩) (LRel.nil _)))
 refine (rB run L0 hargs2).mono fun e W' ⟨he, hB⟩ => ?_
 exact ⟨_, he, qZ (tb := 4) rK rfl (by kernel_rfl) (by kernel_rfl) rfl rfl hW' hB⟩
theorem ud (os : Os) (started : os.Started) (H : Type) (enc : TypeId × Value → H) :
    ReturnsInHanded {} Tryz.checked os 4 .any (fun w args => (Rows.sweeSweepsSpec.pre enc Tryz.prog Tryz.f4 Rows.sweeSweepsRow.domain false w args ∧ laidMetH Tryz.prog Rows.sweeSweepsRow.laid w) ∧ sizedMet enc Tryz.prog Tryz.f4 (OpenSpec.ofChange Rows.sweeSweepsSpec) false w args) (Rows.sweeSweepsSpec.post enc Tryz.prog Tryz.f4 false true false false) := by
 refine mc (C := Tryz.checked) (X := fun w _ => laidMetH Tryz.prog Rows.sweeSweepsRow.laid w) (fun _ _ _ hh h => h.of_heap hh) rS started (by kernel_rfl) Tryz.func4
  (ChangeSpec.witness_shaped (enc := enc) (C := Tryz.checked) (os := os) (X := fun w _ => laidMetH Tryz.prog Rows.sweeSweepsRow.laid w) false (World.laidAll Tryz.prog os Rows.sweeSweepsRow.laid) #[.slice none 0 0, .int .i64 0, .int .i64 0] 8 (World.laidAll_os _ _ _)
   (World.shaped_of_ZipB (by kernel_rfl) (by kernel_rfl)) (by kernel_rfl) (by kernel_rfl) (by kernel_rfl)
   (by rw [MakeChecks.laidMetH_plain _ _ _ (by kernel_rfl)]; exact laidMet_laidAll _ (by kernel_rfl) (by kernel_rfl))) ?_
 intro W base args ds gs before hSh hLd hval hW
 exact ky H enc W base args ds gs before hval hW hSh hLd
theorem q9 : Rows.sweeSweepsRow.holds Tryz.pinned (OpenSpec.ofChange Rows.sweeSweepsSpec) :=
 OpenClaim.holds_of_wide 4 Tryz.f4 rfl rfl rfl rfl rfl rfl rfl ⟨rfl, rfl, rfl, rfl, rfl⟩ rfl rfl rfl rfl rfl (by kernel_rfl) Tryz.func4 (by kernel_rfl)
  (of_decide_eq_true (by kernel_rfl)) (by unfold Func.isWrapper; first | (rw [if_pos (by decide +kernel)]; kernel_rfl) | (rw [if_neg (by decide +kernel)]; exact ⟨rfl, rfl⟩))
  (fun os started H enc _ => ud os started H enc)
theorem proved : Rows.SweeSweepsCardSaid :=
 Claim7.holds_tied_plain_at .later [] [.data, .data, .data, .data, .sentinel, .sentinel, .pinned] true (true, "578901d41e7f04aee3abcdd7b675d9038c1af39f7aa8798b5191192637c503f9") true q9 (fun _ h => by cases h) (by kernel_rfl) (fun _ h => by cases h) sweeSweeps_row_tie rfl ⟨rfl, rfl⟩ (by kernel_rfl) rfl
  (fun f fn hf hfn => by
   obtain rfl : f = 4 := Option.some.inj ((show Tryz.prog.funcNamed "fettle/fettlelaw19.SweeSweeps" = some 4 by kernel_rfl).symm.trans hf) |>.symm
   obtain rfl : fn = Tryz.f4 := (Option.some.inj (Tryz.func4.symm.trans hfn)).symm
   exact ⟨by kernel_rfl, fun j t ht => by
    have hm : t ∈ [Ty.g, Ty.f, Ty.f] := by simpa using Array.mem_of_getElem? (show (#[Ty.g, Ty.f, Ty.f] : Array TypeId)[j]? = some t from ht)
    have hall : ([Ty.g, Ty.f, Ty.f].all fun u => !Tryz.prog.wantsStandIn u) = true := by kernel_rfl
    exact (show Tryz.prog.wantsStandIn t = false by simpa using List.all_eq_true.1 hall t hm)⟩)
  (by kernel_rfl)
end Go.Proofs.YtjchjhkhopcalaaGreatDoor.sweeSweeps
