/- ... -/
import Derived.Test.YtjchjhkhopcalaaGreatDoorPKE
import Derived.Shelf.Bytes.SlJoin
import Derived.Shelf.SlIter.Nil
set_option linter.unusedVariables false
set_option linter.unusedSimpArgs false
namespace Go.Ab
open Go.RowKit Go.Proofs Go.Shelf
theorem mM {P : Program} {μ : Map} {M : Store} {w w' : World} (hR : Rel P μ M w) (hB : Below w.heap.size w w') : Rel P μ M w' ∧ Step μ M w μ M w' := by
 have hsh : SLe w.shape? w'.shape? := fun b x hx => by
  unfold World.shape? at hx ⊢
  rw [hB.block b (iK (w := w) (x := x) hx)]; exact hx
 exact ⟨⟨fun i l hl => ⟨(hR.dom i l hl).1, Nat.lt_of_lt_of_le (hR.dom i l hl).2 hB.size⟩, fun i l hl => (hR.obj i l hl).mono (.refl _) hsh (hB.block _ (hR.dom i l hl).2), hR.excl⟩,
  ⟨.refl _, Nat.le_refl _, hB.size, hB.os, hB.tape, hB.output, hsh, [], rfl, fun b hb _ => hB.block b hb, fun i l hl => .inl hl⟩⟩
theorem p7 {P : Program} {μ : Map} {M : Store} {w w' : World} (hR : Rel P μ M w) (hB : Below w.heap.size w w') {g cap n : Nat} (hg : w.heap.size ≤ g) (hn : 0 < n) (hcap : n ≤ cap) (hmax : cap ≤ maxLen) {f : Nat → Value}
    (hf : ∀ i, i < n → w'.cell? ⟨g, i, none⟩ = some (f i)) {vs : List Value} (hvs : ∀ μ, LRel (CRel P μ w'.shape?) ((List.range n).map f) vs) (e : TypeId) :
    Made P μ M w (.slice (some ⟨M.n, 0, none⟩) n (n + 2)) (M.push (some (.inl (vs, e, false)))) (.slice (some ⟨g, 0, none⟩) n cap) w' := by
 obtain ⟨R1, S1⟩ := mM hR hB
 obtain ⟨_, cc, ce, fr, hb, hwin⟩ := jr (w := w') (a := ⟨g, 0, none⟩) (n := n) (f := f) hn fun i hi => by
  rw [gm, Nat.zero_add]; exact hf i hi
 have hlen : vs.length = n := by have := (hvs μ).1; simpa using this.symm
 have hle : MLe μ (upd μ M.n ⟨g, 0, false⟩) := MLe.upd R1.fresh
 have hup : ∀ i l, upd μ M.n ⟨g, 0, false⟩ i = some l → (i = M.n ∧ l = ⟨g, 0, false⟩) ∨ (i ≠ M.n ∧ μ i = some l) := by
  intro i l hi
  by_cases e : i = M.n
  ·subst e; rw [aF] at hi; injection hi with hi; exact .inl ⟨rfl, hi.symm⟩
  ·rw [bC _ _ e] at hi; exact .inr ⟨e, hi⟩
 refine ⟨upd μ M.n ⟨g, 0, false⟩, ⟨?_, ?_, ?_⟩, ⟨hle, by simp, S1.size, S1.os, S1.tape, S1.output, S1.shp, [], rfl, fun b hb _ => hB.block b hb, ?_⟩, ?_⟩
 ·intro i l hi
  rcases hup i l hi with ⟨rfl, rfl⟩ | ⟨h1, h2⟩
  ·exact ⟨by simp, (Array.getElem?_eq_some_iff.1 hb).1⟩
  ·have := R1.dom _ _ h2
   exact ⟨by simp; omega, this.2⟩
 ·intro i l hi
  rcases hup i l hi with ⟨rfl, rfl⟩ | ⟨h1, h2⟩
  ·rw [Store.get_push_eq]
   exact ⟨rfl, cc, ce, fr, hb, by rw [hlen, hwin]; exact hvs _, fun h => by cases h⟩
  ·rw [Store.get_push_ne _ _ h1]
   exact (R1.obj i l h2).mono hle (.refl _) rfl
 ·intro i j l k hi hj hne h1 h2 ho
  rcases hup i l hi with ⟨rfl, rfl⟩ | ⟨h3, h4⟩
  ·cases ho
  ·rcases hup j k hj with ⟨rfl, rfl⟩ | ⟨h5, h6⟩
   ·have := (hR.dom i l h4).2
    show l.b ≠ g
    omega
   ·rw [Store.get_push_ne _ _ h3] at h1
    rw [Store.get_push_ne _ _ h5] at h2
    exact R1.excl i j l k h4 h6 hne h1 h2 ho
 ·intro i l hi
  rcases hup i l hi with ⟨rfl, rfl⟩ | ⟨h3, h4⟩
  ·exact .inr ⟨Nat.le_refl _, trivial, .inl hg⟩
  ·exact .inl h4
 ·refine VRel.of_B (show SlRel P _ _ _ _ _ _ _ _ from { len := rfl, le := hcap, max := hmax, full := (fun h => by omega), some_ := rfl, nil := (fun h => by cases h), addr := ?_ })
  intro _ x hx
  injection hx with hx; subst hx
  refine ⟨⟨g, 0, none⟩, rfl, ⟨rfl, ⟨g, 0, false⟩, aF _ _ _, rfl⟩, ?_⟩
  intro l hl ho
  rw [aF] at hl; injection hl with hl; subst hl; cases ho
def k9 : List Value → Option (List UInt8)
 | [] => some []
 | .int .u8 (.ofNat n) :: r => bif Nat.blt n 256 then (k9 r).map (UInt8.ofNat n :: ·) else none
 | _ => none
theorem j4 : ∀ {l : List Value} {xs : List UInt8}, k9 l = some xs → l = xs.map bv
 | [], xs, h => by injection h with h; subst h; rfl
 | v :: r, xs, h => by
  unfold k9 at h
  split at h
  ·rename_i e; cases e
  ·rename_i n r' e
   injection e with e1 e2; subst e1; subst e2
   cases hb : Nat.blt n 256 with
   | false => rw [hb] at h; cases h
   | true =>
    rw [hb, cond_true] at h
    obtain ⟨y, hy, rfl⟩ := Option.map_eq_some_iff.1 h
    rw [j4 hy]
    have hn : n < 256 := by simpa using hb
    simp only [List.map_cons, bv, List.cons.injEq, Value.int.injEq, true_and, and_true]
    rw [UInt8.toNat_ofNat']; simp; omega
  ·cases h
end Go.Ab

namespace Go.Ab
open Go.RowKit Go.Proofs Go.Shelf
set_option linter.unusedVariables false
set_option linter.unusedSimpArgs false
set_option maxRecDepth 100000
theorem rL {P : Program} {e : TypeId} {s n : Nat} (hs : P.cellsOf e = s) (h0 : 0 < s) (hn : s ≤ n) : liesAt P P.depth e (n / P.cellsOf e) 0 e 1 = true := by
 have hd : P.depth = (2 * (P.types.size + Made.depth) + 1) + 1 := rfl
 have h1 : 1 ≤ n / s := (Nat.le_div_iff_mul_le h0).2 (by omega)
 rw [hs, hd]
 simp only [liesAt, Bool.or_eq_true]
 left
 rw [hd]
 simp [rowAt, hs, h1, sameLayout, Nat.ne_of_gt h0]
def pP (T : TypeId) : Array Value → Store → Option (Value × Store) := fun args M => match args.toList with
 | [.pointer (some ⟨b, 0, none⟩)] => match M.get b with
  | some (.inl ([.pointer p, s], t, true)) => bif Nat.beq t T then match p with
      | none => some (.tuple #[], M.set b (some (.inl ([.pointer (some ⟨b, 0, none⟩), s], t, true))))
      | some ⟨c, 0, none⟩ => bif Nat.beq c b then some (.tuple #[], M) else none
      | _ => none
   else none
  | _ => none
 | _ => none
theorem fL {w : World} {b i : Nat} {cc : Array Value} {e : TypeId} {fr : Nat × Nat} {u : Value} (hb : w.heap[b]? = some (.cells cc e fr)) (hu : cc.toList[i]? = some u) : w.cell? ⟨b, i, none⟩ = some u := by
 simp only [World.cell?, hb]
 simpa using hu
theorem ra {w : World} {b i : Nat} {cc : Array Value} {e : TypeId} {fr : Nat × Nat} (hb : w.heap[b]? = some (.cells cc e fr)) (v : Value) :
    (w.setCell ⟨b, i, none⟩ v).heap[b]? = some (.cells (cc.setIfInBounds i v) e fr) ∧ WroteB w (w.setCell ⟨b, i, none⟩ v) b := by
 have h1 : (w.setCell ⟨b, i, none⟩ v).heap[b]? = some (.cells (cc.setIfInBounds i v) e fr) := by simp [World.setCell, Array.getElem?_modify, hb]
 refine ⟨h1, fun k hk => ?_, by simp [World.setCell], ?_, rfl, rfl, rfl⟩
 ·simp only [World.setCell, Array.getElem?_modify]
  rw [if_neg (by simpa using Ne.symm hk)]
 ·simp [World.shape?, h1, hb]
theorem nY {w : World} {b n : Nat} {cc : Array Value} {e : TypeId} {fr : Nat × Nat} (hb : w.heap[b]? = some (.cells cc e fr)) (hn : 0 < n) : WroteB w (w.drew.freeze ⟨b, 0, none⟩ n) b := by
 have hsh : w.shape? b = some (e, cc.size) := by simp [World.shape?, hb]
 have hd : w.drew.heap = w.heap := rfl
 have hn0 : n ≠ 0 := by omega
 have hf : (w.drew.freeze ⟨b, 0, none⟩ n).heap[b]? = some (.cells cc e (if fr.1 == fr.2 then (0, n) else (min fr.1 0, max fr.2 n))) := by
  simp [World.freeze, hd, hn0, Array.getElem?_modify, hb]
 refine ⟨fun k hk => ?_, by simp [World.freeze, hd, hn0], ?_, ?_, ?_, ?_⟩
 ·simp [World.freeze, hd, hn0, Array.getElem?_modify, Ne.symm hk]
 ·rw [hsh]; simp [World.shape?, hf]
 ·simp [World.freeze, hn0] <;> rfl
 ·simp [World.freeze, hn0] <;> rfl
 ·simp [World.freeze, hn0] <;> rfl
theorem pQ {P : Program} {ρ : Ren} (L : Lays.n240 P ρ) (X : Builder.X72 P ρ) (b n : Nat) (w : World) (h0 : w.cell? ⟨b, 0, none⟩ = some (.pointer none)) (hsh : w.shape? b = some (ρ.t 72, n)) (hn : 2 ≤ n) (hfz : w.frozen? ⟨b, 0, none⟩ = false) :
    Calls P (ρ.f 240) #[.pointer (some ⟨b, 0, none⟩)] w fun e w' => e = .returned (.tuple #[]) ∧ w' = w.setCell ⟨b, 0, none⟩ (.pointer (some ⟨b, 0, none⟩)) := by
 obtain ⟨j, hj, hjs⟩ := Option.map_eq_some_iff.1 X.sizeBuilder
 have hc2 : P.cellsOf (ρ.t 72) = 2 := by simp [Program.cellsOf, hj, hjs]
 have hlies := rL hc2 (by decide) hn
 have mixed := L.mixed
 have t72 := L.t72
 have a72 := L.a72
 have z72 := L.z72
 have u72 := run_underlying L.t72
 have t70 := L.t70
 have a70 := L.a70
 have z70 := L.z70
 have u70 := run_underlying L.t70
 have t9 := L.t9
 have a9 := L.a9
 have z9 := L.z9
 have u9 := run_underlying L.t9
 have t4 := L.t4
 have a4 := L.a4
 have z4 := L.z4
 have u4 := run_underlying L.t4
 have t164 := L.t164
 have a164 := L.a164
 have z164 := L.z164
 have u164 := run_underlying L.t164
 go_enter L.f240, Body.n240_ntmps ρ
 go_wp2
 rw [Lib.run_to_unsafe w ⟨b, 0, none⟩ L.t70 L.t164 hj (by rw [hjs]; decide) hsh (show 0 < n by omega)]
 simp only [Result.andThen]
 rw [Oper.upon_value]
 go_wp2
 rw [run_callFunc_extern L.f276 (by kernel_rfl) (by kernel_rfl) (by kernel_rfl) (e := Extern.AbiNoEscape.same) (by kernel_rfl), Lib.run_noEscape]
 simp only [Result.andThen]
 rw [Oper.upon_value]
 go_wp2
 rw [Lib.run_from_unsafe w ⟨b, 0, none⟩ L.t164 L.t70 hj hsh hlies]
 simp only [Result.andThen]
 rw [Oper.upon_value]
 go_wp2
 go_end0
 exact ⟨rfl, rfl⟩
theorem rD {P : Program} {ρ : Ren} (L : Lays.n240 P ρ) (X : Builder.X72 P ρ) {fn : Func} {c : Code} (hf : P.funcs[ρ.f 240]? = some fn) (hb : fn.body = some c) (hn : (fn.name == "runtime.NumGoroutine") = false) : ay P (ρ.f 240) (pP (ρ.t 72)) := by
 intro args M v M' h
 unfold pP at h
 split at h
 ·rename_i b hargs
  split at h
  ·rename_i p s t hg
   cases ht : Nat.beq t (ρ.t 72) with
   | false => rw [ht] at h; cases h
   | true =>
    rw [ht, cond_true] at h
    obtain rfl := Nat.eq_of_beq_eq_true ht
    split at h
    ·injection h with h; injection h with h h'; subst h; subst h'
     refine ⟨⟨⟨fn, c, hf, hb, hn⟩, Grow.set _ _ _⟩, fun μ w cargs hG hR ha => ?_⟩
     obtain ⟨x, rfl, hx⟩ := fz ha hargs
     obtain ⟨y, rfl, hy⟩ := hx.pointer
     cases y <;> first | exact hy.elim | skip
     obtain ⟨_, l, hl, rfl⟩ := Or.resolve_right hy (by simp)
     obtain ⟨ho, ho0, cc, fr, hbl, hcl, hrel, hfr⟩ := b7 hR hl hg
     have h2 : 2 ≤ cc.size := hcl
     obtain ⟨u0, hu0, hr0⟩ := hrel.get (i := 0) rfl
     obtain ⟨u1, hu1, hr1⟩ := hrel.get (i := 1) rfl
     rw [List.getElem?_take, if_pos (by simp)] at hu0
     rw [List.getElem?_take, if_pos (by simp)] at hu1
     obtain ⟨y0, rfl, hy0⟩ := (VRel.of_D (.of_C hr0)).pointer
     cases y0 with
     | some _ => exact hy0.elim
     | none =>
      have hc : ∃ r, cc.toList = .pointer none :: u1 :: r := by
       match cc.toList, hu0, hu1 with
       | x :: y :: r, g0, g1 =>
        simp at g0 g1
        exact ⟨r, by rw [g0, g1]⟩
      obtain ⟨r, hc⟩ := hc
      have hlo : l.o + 0 = 0 := by omega
      simp only [hlo] at hx ⊢
      obtain ⟨s1, s2⟩ := ra (i := 0) hbl (.pointer (some ⟨l.b, 0, none⟩))
      obtain ⟨R1, S1⟩ := d3 hR hl hg ho s2 (some (.inl ([.pointer (some ⟨b, 0, none⟩), s], ρ.t 72, true)))
       ⟨ho.symm, _, _, _, s1, by
        rw [ho0, Array.toList_setIfInBounds, hc]
        exact LRel.cons hx (LRel.cons (hr1.mono (.refl _) s2.sle) (LRel.nil _)), fun _ => ⟨rfl, ho0, by simpa using hfr⟩⟩
      refine (pQ L X l.b cc.size w (fL hbl hu0) (by simp [World.shape?, hbl]) h2 ?_).mono fun e w' ⟨he, hw⟩ => ⟨_, he, μ, ?_⟩
      ·have := hfr.cells 0 (by omega)
       simp only [World.frozen?, hbl]
       simpa using this
      ·subst hw
       exact ⟨R1, S1, LRel.nil _⟩
    ·rename_i c
     cases hcb : Nat.beq c b with
     | false => rw [hcb] at h; cases h
     | true =>
      rw [hcb, cond_true] at h
      injection h with h; injection h with h h'; subst h; subst h'
      obtain rfl := Nat.eq_of_beq_eq_true hcb
      refine ⟨⟨⟨fn, _, hf, hb, hn⟩, Grow.refl _⟩, fun μ w cargs hG hR ha => ?_⟩
      obtain ⟨x, rfl, hx⟩ := fz ha hargs
      obtain ⟨y, rfl, hy⟩ := hx.pointer
      cases y <;> first | exact hy.elim | skip
      obtain ⟨_, l, hl, rfl⟩ := Or.resolve_right hy (by simp)
      obtain ⟨ho, ho0, cc, fr, hbl, hcl, hrel, hfr⟩ := b7 hR hl hg
      obtain ⟨u0, hu0, hr0⟩ := hrel.get (i := 0) rfl
      rw [List.getElem?_take, if_pos (by simp)] at hu0
      obtain ⟨y0, rfl, hy0⟩ := (VRel.of_D (.of_C hr0)).pointer
      cases y0 <;> first | exact hy0.elim | skip
      obtain ⟨_, k, hk, rfl⟩ := Or.resolve_right hy0 (by simp)
      have e : k = l := by
       have := hk.symm.trans hl
       injection this
      subst e
      have hlo : k.o + 0 = 0 := by omega
      simp only [hlo] at hu0 ⊢
      refine (Any.Builder_copyCheck_used L X k.b w (fL hbl hu0)).mono fun e w' ⟨he, hw⟩ => ⟨_, he, μ, ?_⟩
      subst hw
      exact ⟨hR, .refl _ _ _, LRel.nil _⟩
    ·cases h
  ·cases h
 ·cases h
def r7 (T E : TypeId) : Array Value → Store → Option (Value × Store) := fun args M => match args.toList with
 | [.pointer (some ⟨b, 0, none⟩)] => match M.get b with
  | some (.inl ([_, .slice (some ⟨g, 0, none⟩) n _], t, true)) => bif Nat.beq t T && Nat.ble 1 n && Nat.ble n 1000000 then match M.get g with
      | some (.inl (cs, t', true)) => bif Nat.beq t' E && Nat.ble n cs.length then (k9 (cs.take n)).bind fun l => some (.string ⟨l.toArray⟩, M.set g none) else none
      | _ => none
   else none
  | _ => none
 | _ => none
theorem r8 {P : Program} {ρ : Ren} (L : Lays.n169 P ρ) (X : Builder.Extra P ρ) (b g cap m : Nat) (fr : Nat × Nat) (l : List UInt8) (cur : Array Value) (w : World) (h0 : l ≠ []) (hm : l.length ≤ 1000000) (c1 : w.cell? ⟨b, 1, none⟩ = some (.slice (some ⟨g, 0, none⟩) l.length cap)) (hcap : l.length ≤ cap)
    (hg : w.heap[g]? = some (.cells cur (ρ.t 5) fr)) (hn : l.length ≤ cur.size) (hcell : ∀ (j : Nat) (x : UInt8), l[j]? = some x → cur.toList[j]? = some (Value.int .u8 (x.toNat : Int))) :
    Calls P (ρ.f 169) #[.pointer (some ⟨b, 0, none⟩)] w fun e w' => e = .returned (.string ⟨l.toArray⟩) ∧ w' = w.drew.freeze ⟨g, 0, none⟩ l.length := by
 have hl0 : l.length ≠ 0 := by simpa using h0
 have c1 : w.drew.cell? ⟨b, 1, none⟩ = some (.slice (some ⟨g, 0, none⟩) l.length cap) := c1
 have hg' : w.drew.heap[g]? = some (.cells cur (ρ.t 5) fr) := hg
 have hSD : (Builtin.unsafeSliceData_ #[(ρ.t 37)] (ρ.t 127) #[.slice (some ⟨g, 0, none⟩) l.length cap]).run P w.drew = .ok (.pointer (some ⟨g, 0, none⟩)) w.drew :=
  Lib.run_unsafeSliceData_row _ _ _ _ _ _ (by omega)
 have hUS : (Builtin.unsafeString_ #[(ρ.t 127), (ρ.t 3)] (ρ.t 9) #[.pointer (some ⟨g, 0, none⟩), .int .i64 l.length]).run P w.drew = .ok (.string ⟨l.toArray⟩) (w.drew.freeze ⟨g, 0, none⟩ l.length) := by
  refine Lib.run_unsafeString_row w.drew (ρ.t 127) (ρ.t 3) (ρ.t 9) (ρ.t 5) L.t127 X.cellsByte g cur.size (by simp [World.shape?, hg']) l h0 hn (by omega) ?_
  intro j x hx
  have := fL hg' (hcell j x hx)
  cases j with
  | zero => simpa [Addr.add] using this
  | succ j => simpa [Addr.add] using this
 have mixed := L.mixed
 have t72 := L.t72
 have a72 := L.a72
 have z72 := L.z72
 have u72 := run_underlying L.t72
 have t70 := L.t70
 have a70 := L.a70
 have z70 := L.z70
 have u70 := run_underlying L.t70
 have t37 := L.t37
 have a37 := L.a37
 have z37 := L.z37
 have u37 := run_underlying L.t37
 have t127 := L.t127
 have a127 := L.a127
 have z127 := L.z127
 have u127 := run_underlying L.t127
 have t3 := L.t3
 have a3 := L.a3
 have z3 := L.z3
 have u3 := run_underlying L.t3
 have t9 := L.t9
 have a9 := L.a9
 have z9 := L.z9
 have u9 := run_underlying L.t9
 have t5 := X.t5
 have a5 := X.a5
 have z5 := X.z5
 have u5 := run_underlying X.t5
 go_enter L.f169, Body.n169_ntmps ρ
 go_wp2
 go_region_o
 all_goals (go_wp2; go_ret; exact ⟨rfl, rfl⟩)
theorem tx {P : Program} {ρ : Ren} (L : Lays.n169 P ρ) (X : Builder.Extra P ρ) {fn : Func} {c : Code} (hf : P.funcs[ρ.f 169]? = some fn) (hb : fn.body = some c) (hn : (fn.name == "runtime.NumGoroutine") = false) : ay P (ρ.f 169) (r7 (ρ.t 72) (ρ.t 5)) := by
 intro args M v M' h
 unfold r7 at h
 split at h
 ·rename_i b hargs
  split at h
  ·rename_i q g n cp t hg
   cases hq : Nat.beq t (ρ.t 72) && Nat.ble 1 n && Nat.ble n 1000000 with
   | false => rw [hq] at h; cases h
   | true =>
    rw [hq, cond_true] at h
    rw [Bool.and_eq_true, Bool.and_eq_true] at hq
    obtain rfl := Nat.eq_of_beq_eq_true hq.1.1
    have hn1 := Nat.le_of_ble_eq_true hq.1.2
    have hn2 := Nat.le_of_ble_eq_true hq.2
    split at h
    ·rename_i cs t' hgg
     cases hq' : Nat.beq t' (ρ.t 5) && Nat.ble n cs.length with
     | false => rw [hq'] at h; cases h
     | true =>
      rw [hq', cond_true] at h
      rw [Bool.and_eq_true] at hq'
      obtain rfl := Nat.eq_of_beq_eq_true hq'.1
      have hnc := Nat.le_of_ble_eq_true hq'.2
      obtain ⟨l, hl, h⟩ := Option.bind_eq_some_iff.1 h
      injection h with h; injection h with h h'; subst h; subst h'
      have hcl := j4 hl
      have hll : l.length = n := by
       have := congrArg List.length hcl
       simp at this; omega
      subst hll
      refine ⟨⟨⟨fn, c, hf, hb, hn⟩, Grow.set _ _ _⟩, fun μ w cargs hG hR ha => ?_⟩
      obtain ⟨x, rfl, hx⟩ := fz ha hargs
      obtain ⟨y, rfl, hy⟩ := hx.pointer
      cases y <;> first | exact hy.elim | skip
      obtain ⟨_, lb, hlb, rfl⟩ := Or.resolve_right hy (by simp)
      obtain ⟨ho, ho0, cc, fr, hbl, hcl', hrel, hfr⟩ := b7 hR hlb hg
      obtain ⟨u1, hu1, hr1⟩ := hrel.get (i := 1) rfl
      rw [List.getElem?_take, if_pos (by simp)] at hu1
      obtain ⟨ac, cap, rfl, hsl⟩ := (VRel.of_D (.of_C hr1)).slice
      obtain ⟨y, rfl, ⟨_, lg, hlg, rfl⟩, _⟩ := hsl.addr (.inl (by omega)) _ rfl
      obtain ⟨go, go0, gc, gfr, hgb, hgl, hgrel, hgfr⟩ := b7 hR hlg hgg
      have hlo : lb.o + 0 = 0 := by omega
      have hgo : lg.o + 0 = 0 := by omega
      simp only [hlo] at ⊢
      simp only [hgo] at hu1
      have hw := nY (n := l.length) hgb (by omega)
      obtain ⟨R1, S1⟩ := d3 hR hlg hgg go hw none trivial
      refine (r8 L X lb.b lg.b cap 0 gfr l gc w (fun e => by rw [e] at hn1; exact absurd hn1 (by decide)) hn2 (fL hbl hu1) hsl.le hgb (by omega) (fun j x hj => ?_)).mono fun e w' ⟨he, hw'⟩ => ⟨_, he, μ, ?_⟩
      ·have hjl : j < l.length := (List.getElem?_eq_some_iff.1 hj).1
       have hcj : cs[j]? = some (bv x) := by
        have : (cs.take l.length)[j]? = some (bv x) := by rw [hcl, List.getElem?_map, hj]; rfl
        rwa [List.getElem?_take, if_pos hjl] at this
       obtain ⟨z, hz, hr⟩ := hgrel.get hcj
       rw [List.getElem?_take] at hz
       split at hz
       ·rw [(VRel.of_D (.of_C hr)).int] at hz; exact hz
       ·cases hz
      ·subst hw'
       exact ⟨R1, S1, VRel.mkString _⟩
    ·cases h
  ·cases h
 ·cases h
end Go.Ab

namespace Go.Ab
open Go.RowKit Go.Proofs Go.Shelf Go.Maps
set_option linter.unusedVariables false
set_option linter.unusedSimpArgs false
set_option maxRecDepth 100000
def leU : List UInt8 → List UInt8 → Bool
 | [], _ => true
 | _ :: _, [] => false
 | x :: a, y :: b => bif Nat.blt x.toNat y.toNat then true else bif Nat.blt y.toNat x.toNat then false else leU a b
theorem oc : ∀ a b : List UInt8, leU a b = true → a ≤ b
 | [], b, _ => List.nil_le b
 | x :: a, [], h => by cases h
 | x :: a, y :: b, h => by
  unfold leU at h
  rw [List.cons_le_cons_iff]
  cases h1 : Nat.blt x.toNat y.toNat with
  | true => exact .inl (UInt8.lt_iff_toNat_lt.2 (by simpa using h1))
  | false =>
   rw [h1, cond_false] at h
   cases h2 : Nat.blt y.toNat x.toNat with
   | true => rw [h2] at h; cases h
   | false =>
    rw [h2, cond_false] at h
    refine .inr ⟨?_, oc a b h⟩
    apply UInt8.toNat_inj.1
    have a1 : ¬ x.toNat < y.toNat := fun hlt => by have := Nat.ble_eq_true_of_le (show x.toNat + 1 ≤ y.toNat from hlt); exact absurd (h1.symm.trans this) (by decide)
    have a2 : ¬ y.toNat < x.toNat := fun hlt => by have := Nat.ble_eq_true_of_le (show y.toNat + 1 ≤ x.toNat from hlt); exact absurd (h2.symm.trans this) (by decide)
    omega
theorem mI : ∀ a b : List UInt8, leU a b = false → leU b a = true
 | [], _, h => by cases h
 | x :: a, [], _ => rfl
 | x :: a, y :: b, h => by
  unfold leU at h ⊢
  cases h1 : Nat.blt x.toNat y.toNat with
  | true => rw [h1] at h; cases h
  | false =>
   rw [h1, cond_false] at h
   cases h2 : Nat.blt y.toNat x.toNat with
   | true => rfl
   | false =>
    rw [h2, cond_false] at h
    simp only [cond_false]
    exact mI a b h
def lZ (x : List UInt8) : List (List UInt8) → List (List UInt8)
 | [] => [x]
 | y :: l => bif leU x y then x :: y :: l else y :: lZ x l
def bS : List (List UInt8) → List (List UInt8)
 | [] => []
 | x :: l => lZ x (bS l)
theorem jz (x : List UInt8) : ∀ l, (lZ x l).Perm (x :: l)
 | [] => .refl _
 | y :: l => by
  unfold lZ
  cases leU x y with
  | true => exact .refl _
  | false => exact ((jz x l).cons y).trans (.swap x y l)
theorem aG : ∀ l, (bS l).Perm l
 | [] => .refl _
 | x :: l => (jz x _).trans ((aG l).cons x)
theorem nZ (x : List UInt8) : ∀ l, l.Pairwise (· ≤ ·) → (lZ x l).Pairwise (· ≤ ·)
 | [], _ => List.pairwise_singleton _ _
 | y :: l, h => by
  obtain ⟨h1, h2⟩ := List.pairwise_cons.1 h
  unfold lZ
  cases hq : leU x y with
  | true =>
   have hxy := oc x y hq
   refine List.pairwise_cons.2 ⟨fun z hz => ?_, h⟩
   rcases List.mem_cons.1 hz with hz | hz
   ·rw [hz]; exact hxy
   ·exact List.le_trans hxy (h1 z hz)
  | false =>
   have hyx := oc y x (mI x y hq)
   refine List.pairwise_cons.2 ⟨fun z hz => ?_, nZ x l h2⟩
   rcases List.mem_cons.1 ((jz x l).mem_iff.1 hz) with hz | hz
   ·rw [hz]; exact hyx
   ·exact h1 z hz
theorem iL : ∀ l, (bS l).Pairwise (· ≤ ·)
 | [] => List.Pairwise.nil
 | x :: l => nZ x _ (iL l)
theorem tu {ss ks : List (List UInt8)} (h : ss.Perm ks) : (ss.mergeSort fun x y => decide (x ≤ y)) = bS ks := by
 have tr : ∀ a b c : List UInt8, leB a b = true → leB b c = true → leB a c = true := fun a b c h1 h2 => by simp only [leB, decide_eq_true_eq] at *; exact List.le_trans h1 h2
 have to : ∀ a b : List UInt8, (leB a b || leB b a) = true := fun a b => by simp only [leB, Bool.or_eq_true, decide_eq_true_eq]; exact List.le_total a b
 refine List.Perm.eq_of_pairwise (le := fun a b => a ≤ b) (fun a b _ _ h1 h2 => List.le_antisymm h1 h2) ((List.pairwise_mergeSort tr to ss).imp fun h => by simpa [leB] using h) (iL ks) (((List.mergeSort_perm ss leB).trans h).trans (aG ks).symm)
def iH : List (Value × Value) → Option (List (List UInt8))
 | [] => some []
 | (.string s, _) :: r => bif Nat.ble s.data.toList.length 1000000 then (iH r).map (s.data.toList :: ·) else none
 | _ => none
theorem n8 : ∀ {es : List (Value × Value)} {ks : List (List UInt8)}, iH es = some ks → ks.length = es.length ∧ ∀ (i : Nat) kv k, es[i]? = some kv → ks[i]? = some k → kv.1 = .string ⟨k.toArray⟩ ∧ k.length ≤ 1000000
 | [], ks, h => by injection h with h; subst h; exact ⟨rfl, fun i kv k h => by simp at h⟩
 | (v, u) :: r, ks, h => by
  cases v with
  | string s =>
   simp only [iH] at h
   cases hb : Nat.ble s.data.toList.length 1000000 with
   | false => rw [hb] at h; cases h
   | true =>
    rw [hb, cond_true] at h
    obtain ⟨y, hy, rfl⟩ := Option.map_eq_some_iff.1 h
    obtain ⟨h1, h2⟩ := n8 hy
    refine ⟨by simp [h1], fun i kv k hi hk => ?_⟩
    cases i with
    | zero =>
     simp only [List.getElem?_cons_zero, Option.some.injEq] at hi hk
     subst hi; subst hk
     exact ⟨rfl, Nat.le_of_ble_eq_true hb⟩
    | succ i => exact h2 i kv k (by simpa using hi) (by simpa using hk)
  | _ => cases h
def md (g : FuncId) (K : TypeId) : Array Value → Store → Option (Value × Store) := fun args M => match args.toList with
 | [.func (.func h) fs cs] => match fs.toList, cs.toList with
  | [], [.pointer (some ⟨c, 0, none⟩)] => bif Nat.beq h g then match M.get c with
   | some (.inl (.map (some b) :: _, _, true)) => match M.get b with
    | some (.inr (.inl es)) => match iH es with
     | some ks => bif Nat.ble ks.length 1000000 then match bS ks with
      | [] => some (.slice none 0 0, M)
      | x :: r => some (.slice (some ⟨M.n, 0, none⟩) (r.length + 1) (r.length + 1 + 2), M.push (some (.inl ((x :: r).map (fun s => .string ⟨s.toArray⟩), K, false))))
      else none
     | none => none
    | _ => none
   | _ => none
   else none
  | _, _ => none
 | _ => none
theorem qf {P : Program} {FS g : FuncId} {K : TypeId} (hK : P.underlying K = some .string)
    (hcall : ∀ (Bm b nn : Nat) (D0 : DataW Unit) (R : Value → Option (DataW Unit × List MemPlace)) (w : World), Bm < w.heap.size → w.cell? ⟨Bm, 0, none⟩ = some (.map (some b)) → w.ownsMap P K R b nn D0 → Maps.size D0 ≤ 1000000 →
     Calls P FS #[.func (.func g) #[] #[.pointer (some ⟨Bm, 0, none⟩)]] w fun e w' => ∃ (v : Value) (ss : List (List UInt8)), e = .returned v ∧ ss.Perm (strKeys D0) ∧
      w'.ownsRow w.heap.size K 1 v ss.length ((ss.mergeSort fun x y => decide (x ≤ y)).map encStr) ∧ (v = .slice none 0 0 ↔ ss = []) ∧ Below w.heap.size w w')
    {fn : Func} {c : Code} (hf : P.funcs[FS]? = some fn) (hb : fn.body = some c) (hn : (fn.name == "runtime.NumGoroutine") = false) : ay P FS (md g K) := by
 intro args M v M' h
 unfold md at h
 split at h
 ·rename_i h' fs cs hargs
  split at h
  ·rename_i cb hfs hcs
   cases hg : Nat.beq h' g with
   | false => rw [hg] at h; cases h
   | true =>
    rw [hg, cond_true] at h
    obtain rfl := Nat.eq_of_beq_eq_true hg
    split at h
    ·rename_i b rest t hgc
     split at h
     ·rename_i es hgb
      split at h
      ·rename_i ks hks
       cases hl : Nat.ble ks.length 1000000 with
       | false => rw [hl] at h; cases h
       | true =>
        rw [hl, cond_true] at h
        have hkl := Nat.le_of_ble_eq_true hl
        obtain ⟨hlen, hat⟩ := n8 hks
        have call : ∀ {μ : Map} {w : World} {cargs : Array Value}, Rel P μ M w → LRel (VRel P μ w.shape?) cargs.toList args.toList → Calls P FS cargs w fun e w' => ∃ (v : Value) (ss : List (List UInt8)), e = .returned v ∧ ss.Perm ks ∧
            w'.ownsRow w.heap.size K 1 v ss.length ((bS ks).map encStr) ∧ (v = .slice none 0 0 ↔ ss = []) ∧ Below w.heap.size w w' := by
         intro μ w cargs hR ha
         obtain ⟨x, rfl, hx⟩ := fz ha hargs
         have hx' : CRel P μ w.shape? x (.func (.func h') fs cs) := by
          cases x <;> first | exact hx | exact hx.elim
         cases x <;> first | exact hx'.elim | skip
         rename_i f' a' c'
         obtain ⟨e1, e2, e3⟩ := hx'
         have e1 : f' = .func h' := by cases f' <;> first | exact e1 | exact e1.elim
         subst e1
         rw [hfs] at e2
         rw [hcs] at e3
         have ea : a' = #[] := by
          have := e2.1
          apply Array.toList_inj.1
          simpa using this
         subst ea
         obtain ⟨u, hu, hr⟩ := e3.get (i := 0) rfl
         have el := e3.1
         have ec : c' = #[u] := by
          apply Array.toList_inj.1
          match hq : c'.toList, el, hu with
          | [y], _, hu => simp at hu; rw [hu]
         subst ec
         obtain ⟨y, rfl, hy⟩ := (show VRel P μ w.shape? u (.pointer (some ⟨cb, 0, none⟩)) from VRel.of_B hr).pointer
         cases y <;> first | exact hy.elim | skip
         obtain ⟨_, l, hl, rfl⟩ := Or.resolve_right hy (by simp)
         obtain ⟨ho, ho0, cc, fr, hbl, hcl, hrel, hfr⟩ := b7 hR hl hgc
         obtain ⟨u0, hu0, hr0⟩ := hrel.get (i := 0) rfl
         rw [List.getElem?_take, if_pos (by simp)] at hu0
         obtain ⟨mb, rfl, hmb⟩ := (VRel.of_D (.of_C hr0)).map
         cases mb <;> first | exact hmb.elim | skip
         obtain ⟨k, hk, rfl⟩ := hmb
         obtain ⟨_, en, ck, hbk, hM, _⟩ := fh hR hk hgb
         have hst := fi hR hk hgb hbk
         have hlo : l.o + 0 = 0 := by omega
         simp only [hlo]
         have hkey : ∀ (i : Nat) (x : MapEntry) (s : List UInt8), en.toList[i]? = some x → ks[i]? = some s → x.key = .string ⟨s.toArray⟩ ∧ s.length ≤ 1000000 := by
          intro i x s hi hs
          have hie : i < es.length := by rw [← hlen]; exact (List.getElem?_eq_some_iff.1 hs).1
          have h1 := hM.2 i x es[i] hi (List.getElem?_eq_getElem hie)
          obtain ⟨h2, h3⟩ := hat i es[i] s (List.getElem?_eq_getElem hie) hs
          rw [h2] at h1
          exact ⟨h1.1.string, h3⟩
         let Rv : Value → Option (DataW Unit × List MemPlace) := fun _ => some (.lit (.bool true), [])
         have hrd : ∀ (i : Nat) (x : MapEntry) (s : List UInt8), en.toList[i]? = some x → ks[i]? = some s → WideElems.rd P K Rv x = some (.string s, .lit (.bool true)) := by
          intro i x s hi hs
          obtain ⟨h1, h2⟩ := hkey i x s hi hs
          unfold WideElems.rd
          rw [h1]
          have hsz : (⟨s.toArray⟩ : ByteArray).size = s.length := by simp [ByteArray.size]
          have hm : s.length ≤ maxLen := by unfold maxLen; omega
          have e : keyOf P K (.string ⟨s.toArray⟩) = some (.string s) := by
           unfold keyOf mapKey
           rw [hK]
           simp only []
           rw [if_pos (by rw [hsz]; exact hm)]
          rw [e]; rfl
         have hel : en.toList.length = ks.length := by rw [hlen, hM.1]
         have hsize : en.size ≤ 1000000 := by
          have : en.size = en.toList.length := by simp
          omega
         have hget : ∀ (i : Nat) (x : MapEntry), en.toList[i]? = some x → ∃ s, ks[i]? = some s := fun i x hi => by
          have : i < ks.length := by rw [← hel]; exact (List.getElem?_eq_some_iff.1 hi).1
          exact ⟨_, List.getElem?_eq_getElem this⟩
         have hreads : ∀ x ∈ en.toList, ∃ y, WideElems.rd P K Rv x = some y := by
          intro x hx
          obtain ⟨i, hi⟩ := List.mem_iff_getElem?.1 hx
          obtain ⟨s, hs⟩ := hget i x hi
          exact ⟨_, hrd i x s hi hs⟩
         have hkeys : (en.toList.map (WideElems.rg P K Rv)).map (fun p => strOf p.1) = ks := by
          apply List.ext_getElem?
          intro i
          rw [List.getElem?_map, List.getElem?_map]
          cases hi : en.toList[i]? with
          | none =>
           have : ks.length ≤ i := by rw [← hel]; exact List.getElem?_eq_none_iff.1 hi
           rw [List.getElem?_eq_none this]; rfl
          | some x =>
           obtain ⟨s, hs⟩ := hget i x hi
           have := hrd i x s hi hs
           simp [WideElems.rg, this, hs, strOf]
         have hsp := WideShapes.sorted_perm (en.toList.map (WideElems.rg P K Rv))
         have hperm : (strKeys (.map ((en.toList.map (WideElems.rg P K Rv)).foldr DataW.insert []) : DataW Unit)).Perm ks := by
          have := hsp.map (fun p => strOf p.1)
          rw [hkeys] at this
          exact this
         have hds : Maps.size (.map ((en.toList.map (WideElems.rg P K Rv)).foldr DataW.insert []) : DataW Unit) ≤ 1000000 := by
          show ((en.toList.map (WideElems.rg P K Rv)).foldr DataW.insert []).length ≤ 1000000
          rw [hsp.length_eq, List.length_map]
          omega
         refine (hcall l.b k.b en.size _ Rv w (hR.dom _ _ hl).2 (fL hbl hu0) ⟨en, ck, hbk, ⟨by unfold maxLen; omega, hst, hreads⟩, Nat.le_refl _, rfl⟩ hds).mono fun e w' ⟨v, ss, he, hp, hrow, hnil, hB⟩ => ⟨v, ss, he, hp.trans hperm, ?_, hnil, hB⟩
         rw [← tu (hp.trans hperm)]
         exact hrow
        split at h
        ·rename_i hsr
         injection h with h; injection h with h h'; subst h; subst h'
         refine ⟨⟨⟨fn, c, hf, hb, hn⟩, Grow.refl _⟩, fun μ w cargs hG hR ha => ?_⟩
         refine (call hR ha).mono fun e w' ⟨v, ss, he, hp, hrow, hnil, hB⟩ => ⟨v, he, ?_⟩
         have hss : ss = [] := by
          have := (hp.trans (aG ks).symm)
          rw [hsr] at this
          exact List.perm_nil.1 this
         obtain rfl := hnil.2 hss
         obtain ⟨R1, S1⟩ := mM hR hB
         exact ⟨μ, R1, S1, VRel.of_B (show SlRel P _ _ _ _ _ _ _ _ from { len := rfl, le := Nat.le_refl _, max := Nat.zero_le _, full := (fun _ => rfl), some_ := rfl, nil := (fun _ => ⟨rfl, rfl⟩), addr := (fun _ x hx => by cases hx) })⟩
        ·rename_i x r hsr
         injection h with h; injection h with h h'; subst h; subst h'
         refine ⟨⟨⟨fn, c, hf, hb, hn⟩, Grow.push _ _⟩, fun μ w cargs hG hR ha => ?_⟩
         refine (call hR ha).mono fun e w' ⟨v, ss, he, hp, hrow, hnil, hB⟩ => ⟨v, he, ?_⟩
         have hsl : ss.length = r.length + 1 := by
          have := (hp.trans (aG ks).symm).length_eq
          rw [hsr] at this
          simpa using this
         rw [hsr] at hrow
         rcases hrow.2 with ⟨_, hz⟩ | ⟨gb, cap, cur, rfl, hbase, hgb', r1, r2, r3, r4⟩
         ·omega
         ·rw [hsl] at r1 r4 ⊢
          refine p7 hR hB hbase (Nat.succ_pos _) r1 r2 (f := fun i => encStr ((x :: r).getD i [])) (fun i hi => ?_) (fun μ => ?_) K
          ·refine fL hgb' ?_
           have h1 : (cur.toList.take ((r.length + 1) * 1))[i]? = some (encStr ((x :: r).getD i [])) := by
            rw [r4, List.getElem?_map, List.getD_eq_getElem?_getD, List.getElem?_eq_getElem (show i < (x :: r).length from hi)]; rfl
           rw [List.getElem?_take] at h1
           split at h1
           ·exact h1
           ·cases h1
          ·have : (List.range (r.length + 1)).map (fun i => encStr ((x :: r).getD i [])) = (x :: r).map fun s => Value.string ⟨s.toArray⟩ := by
             apply List.ext_getElem?
             intro i
             rw [List.getElem?_map, List.getElem?_map]
             by_cases hi : i < r.length + 1
             ·rw [List.getElem?_range hi, List.getElem?_eq_getElem (show i < (x :: r).length from hi)]
              show some (encStr ((x :: r).getD i [])) = some (Value.string ⟨((x :: r)[i]'hi).toArray⟩)
              rw [List.getD_eq_getElem?_getD, List.getElem?_eq_getElem (show i < (x :: r).length from hi)]; rfl
             ·rw [List.getElem?_eq_none (by simp; omega), List.getElem?_eq_none (by simp; omega)]; rfl
           rw [this]
           refine LRel.same fun v hv => ?_
           obtain ⟨s, _, rfl⟩ := List.mem_map.1 hv
           exact (rfl : (⟨s.toArray⟩ : ByteArray) = ⟨s.toArray⟩)
      ·cases h
     ·cases h
    ·cases h
  ·cases h
 ·cases h
end Go.Ab
