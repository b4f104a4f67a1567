/- bytes.Join, told at once. -/
import Derived.Test.YtnonfejhkbaikaaDoorPKE
import Derived.Shelf.Bytes.SlJoin
set_option linter.unusedVariables false
set_option linter.unusedSimpArgs false
namespace Go.Ab
open Go.RowKit Go.Proofs Go.Shelf

theorem rel_below {P : Program} {μ : Map} {M : Store} {w w' : World} (hR : Rel P μ M w) (hB : Below w.heap.size w w') : Rel P μ M w' ∧ Step μ M w μ M w' := by
  have hsh : SLe w.shape? w'.shape? := fun b x hx => by
    unfold World.shape? at hx ⊢
    rw [hB.block b (shape_lt (w := w) (x := x) hx)]; exact hx
  exact ⟨⟨fun i l hl => ⟨(hR.dom i l hl).1, Nat.lt_of_lt_of_le (hR.dom i l hl).2 hB.size⟩, fun i l hl => (hR.obj i l hl).mono (.refl _) hsh (hB.block _ (hR.dom i l hl).2), hR.excl⟩,
    ⟨.refl _, Nat.le_refl _, hB.size, hB.os, hB.tape, hB.output, hsh, [], rfl, fun b hb _ => hB.block b hb, fun i l hl => .inl hl⟩⟩

/-- A block that was not there: it may be looked at. -/
theorem made_fresh {P : Program} {μ : Map} {M : Store} {w w' : World} (hR : Rel P μ M w) (hB : Below w.heap.size w w') {g cap n : Nat} (hg : w.heap.size ≤ g) (hn : 0 < n) (hcap : n ≤ cap) (hmax : cap ≤ maxLen) {f : Nat → Value}
    (hf : ∀ i, i < n → w'.cell? ⟨g, i, none⟩ = some (f i)) {vs : List Value} (hvs : ∀ μ, LRel (CRel P μ w'.shape?) ((List.range n).map f) vs) (e : TypeId) :
    Made P μ M w (.slice (some ⟨M.n, 0, none⟩) n (n + 2)) (M.push (some (.inl (vs, e, false)))) (.slice (some ⟨g, 0, none⟩) n cap) w' := by
  obtain ⟨R1, S1⟩ := rel_below hR hB
  obtain ⟨_, cc, ce, fr, hb, hwin⟩ := cells_window (w := w') (a := ⟨g, 0, none⟩) (n := n) (f := f) hn fun i hi => by
    rw [addr_plus, Nat.zero_add]; exact hf i hi
  have hlen : vs.length = n := by have := (hvs μ).1; simpa using this.symm
  have hle : MLe μ (upd μ M.n ⟨g, 0, false⟩) := MLe.upd R1.fresh
  have hup : ∀ i l, upd μ M.n ⟨g, 0, false⟩ i = some l → (i = M.n ∧ l = ⟨g, 0, false⟩) ∨ (i ≠ M.n ∧ μ i = some l) := by
    intro i l hi
    by_cases e : i = M.n
    · subst e; rw [upd_eq] at hi; injection hi with hi; exact .inl ⟨rfl, hi.symm⟩
    · rw [upd_ne _ _ e] at hi; exact .inr ⟨e, hi⟩
  refine ⟨upd μ M.n ⟨g, 0, false⟩, ⟨?_, ?_, ?_⟩, ⟨hle, by simp, S1.size, S1.os, S1.tape, S1.output, S1.shp, [], rfl, fun b hb _ => hB.block b hb, ?_⟩, ?_⟩
  · intro i l hi
    rcases hup i l hi with ⟨rfl, rfl⟩ | ⟨h1, h2⟩
    · exact ⟨by simp, (Array.getElem?_eq_some_iff.1 hb).1⟩
    · have := R1.dom _ _ h2
      exact ⟨by simp; omega, this.2⟩
  · intro i l hi
    rcases hup i l hi with ⟨rfl, rfl⟩ | ⟨h1, h2⟩
    · rw [Store.get_push_eq]
      exact ⟨rfl, cc, ce, fr, hb, by rw [hlen, hwin]; exact hvs _, fun h => by cases h⟩
    · rw [Store.get_push_ne _ _ h1]
      exact (R1.obj i l h2).mono hle (.refl _) rfl
  · intro i j l k hi hj hne h1 h2 ho
    rcases hup i l hi with ⟨rfl, rfl⟩ | ⟨h3, h4⟩
    · cases ho
    · rcases hup j k hj with ⟨rfl, rfl⟩ | ⟨h5, h6⟩
      · have := (hR.dom i l h4).2
        show l.b ≠ g
        omega
      · rw [Store.get_push_ne _ _ h3] at h1
        rw [Store.get_push_ne _ _ h5] at h2
        exact R1.excl i j l k h4 h6 hne h1 h2 ho
  · intro i l hi
    rcases hup i l hi with ⟨rfl, rfl⟩ | ⟨h3, h4⟩
    · exact .inr ⟨Nat.le_refl _, trivial, .inl hg⟩
    · exact .inl h4
  · refine VRel.of_B (show SlRel P _ _ _ _ _ _ _ _ from { len := rfl, le := hcap, max := hmax, full := (fun h => by omega), some_ := rfl, nil := (fun h => by cases h), addr := ?_ })
    intro _ x hx
    injection hx with hx; subst hx
    refine ⟨⟨g, 0, none⟩, rfl, ⟨rfl, ⟨g, 0, false⟩, upd_eq _ _ _, rfl⟩, ?_⟩
    intro l hl ho
    rw [upd_eq] at hl; injection hl with hl; subst hl; cases ho

/-- Bytes, as cells. -/
def byteOf : List Value → Option (List UInt8)
  | [] => some []
  | .int .u8 (.ofNat n) :: r => bif Nat.blt n 256 then (byteOf r).map (UInt8.ofNat n :: ·) else none
  | _ => none
theorem byteOf_some : ∀ {l : List Value} {xs : List UInt8}, byteOf l = some xs → l = xs.map bv
  | [], xs, h => by injection h with h; subst h; rfl
  | v :: r, xs, h => by
    unfold byteOf at h
    split at h
    · rename_i e; cases e
    · rename_i n r' e
      injection e with e1 e2; subst e1; subst e2
      cases hb : Nat.blt n 256 with
      | false => rw [hb] at h; cases h
      | true =>
        rw [hb, cond_true] at h
        obtain ⟨y, hy, rfl⟩ := Option.map_eq_some_iff.1 h
        rw [byteOf_some hy]
        have hn : n < 256 := by simpa using hb
        simp only [List.map_cons, bv, List.cons.injEq, Value.int.injEq, true_and, and_true]
        rw [UInt8.toNat_ofNat']; simp; omega
    · cases h
/-- The bytes of a slice. -/
def partOf (M : Store) : Value → Option (List UInt8)
  | .slice a n _ => bif Nat.beq n 0 then some [] else match a with
    | some ⟨b, o, none⟩ => (rowOf M b o n).bind byteOf
    | _ => none
  | _ => none
def partsOf (M : Store) : List Value → Option (List (List UInt8))
  | [] => some []
  | v :: r => (partOf M v).bind fun x => (partsOf M r).map (x :: ·)

theorem part_holds {P : Program} {μ : Map} {M : Store} {w : World} (hR : Rel P μ M w) {u v : Value} {l : List UInt8} (h : partOf M v = some l) (hr : CRel P μ w.shape? u v) : Lib.HoldsBytes w u l := by
  unfold partOf at h
  split at h
  · rename_i a n cap
    cases u <;> first
      | exact hr.elim
      | skip
    rename_i ac nc cc
    have hS : SlRel P μ w.shape? ac nc cc a n cap := hr
    obtain rfl := hS.len
    cases h1 : Nat.beq nc 0 with
    | true =>
      rw [h1, cond_true] at h
      injection h with h; subst h
      obtain rfl := Nat.eq_of_beq_eq_true h1
      exact ⟨ac, cc, rfl, fun _ => rfl, fun _ _ i x hx => by simp at hx⟩
    | false =>
      rw [h1, cond_false] at h
      split at h
      · rename_i b o
        obtain ⟨cs, hrow, hby⟩ := Option.bind_eq_some_iff.1 h
        have hcs := byteOf_some hby
        have hn0 : 0 < nc := by
          rcases nc with _ | n
          · simp at h1
          · omega
        obtain ⟨y, rfl, ⟨_, k, hk, rfl⟩, _⟩ := hS.addr (.inl hn0) _ rfl
        obtain ⟨us, h3, h4, h5⟩ := row_rel hR hrow hk
        have hlen : l.length = nc := by
          have := h3.1; rw [hcs] at this; simp at this; omega
        subst hlen
        refine ⟨_, cc, rfl, (fun h => by cases h), fun a ha i x hx => ?_⟩
        injection ha with ha; subst ha
        have hc : cs[i]? = some (bv x) := by rw [hcs, List.getElem?_map, hx]; rfl
        obtain ⟨z, hz, hr⟩ := h3.get hc
        have := h5 i z hz
        rw [addr_plus, this, (VRel.of_D (.of_C hr)).int]
      · cases h
  · cases h
theorem partsOf_at {P : Program} {μ : Map} {M : Store} {w : World} (hR : Rel P μ M w) : ∀ {us vs : List Value} {ls : List (List UInt8)}, partsOf M vs = some ls → LRel (CRel P μ w.shape?) us vs →
    us.length = ls.length ∧ ∀ (i : Nat) u l, us[i]? = some u → ls[i]? = some l → Lib.HoldsBytes w u l
  | us, [], ls, h, hr => by
    injection h with h; subst h
    have := hr.1
    simp at this; subst this
    exact ⟨rfl, fun i u l hu => by simp at hu⟩
  | us, v :: vs, ls, h, hr => by
    obtain ⟨x, hx, h⟩ := Option.bind_eq_some_iff.1 h
    obtain ⟨y, hy, rfl⟩ := Option.map_eq_some_iff.1 h
    match us, hr with
    | [], hr => have := hr.1; simp at this
    | u :: us, hr =>
      obtain ⟨h1, h2⟩ := partsOf_at hR hy hr.tail
      refine ⟨by simp [h1], fun i a l ha hl => ?_⟩
      cases i with
      | zero => simp at ha hl; subst ha; subst hl; exact part_holds hR hx hr.head
      | succ i => exact h2 i a l (by simpa using ha) (by simpa using hl)

theorem slice_zero {P : Program} {μ : Map} {sh : Shp} {a : Option Addr} {c : Nat} (hc : c ≤ maxLen) (ha : a.isSome = true) : VRel P μ sh (.slice a 0 c) (.slice (some ⟨0, 0, none⟩) 0 2) :=
  VRel.of_B (show SlRel P _ _ _ _ _ _ _ _ from { len := rfl, le := Nat.zero_le _, max := hc, full := (fun h => by cases h), some_ := ha, nil := (fun h => by cases h), addr := (fun h => by rcases h with h | h <;> omega) })

theorem fresh_made {P : Program} {μ : Map} {M : Store} {w w' : World} (hR : Rel P μ M w) (hB : Below w.heap.size w w') {v : Value} {l : List UInt8} (h : Lib.FreshBytes w.heap.size w' v l) (hl : 0 < l.length) (e : TypeId) :
    Made P μ M w (.slice (some ⟨M.n, 0, none⟩) l.length (l.length + 2)) (M.push (some (.inl (l.map bv, e, false)))) v w' := by
  obtain ⟨g, cap, zs, rfl, hg, hcap, hmax, hz, hr, hb, hc, _⟩ := h
  refine made_fresh hR hB hg hl hcap hmax (f := fun i => .int .u8 (zs.getD i 0)) (fun i hi => hc i (by omega)) (fun μ => ?_) e
  have : (List.range l.length).map (fun i => Value.int .u8 (zs.getD i 0)) = l.map bv := by
    apply List.ext_getElem?
    intro i
    rw [List.getElem?_map, List.getElem?_map]
    by_cases hi : i < l.length
    · have hzi : i < zs.length := by omega
      have h1 : l[i]? = some (UInt8.ofNat (zs[i]).toNat) := by
        conv => lhs; rw [← hb]
        rw [Lib.bytesOf, List.getElem?_map, List.getElem?_take, if_pos hi, List.getElem?_eq_getElem hzi]; rfl
      have hw := hr zs[i] (List.getElem_mem hzi)
      rw [List.getElem?_range hi, h1]
      simp only [Option.map_some, Option.some.injEq, bv, Value.int.injEq, true_and, List.getD_eq_getElem?_getD, List.getElem?_eq_getElem hzi, Option.getD_some]
      rw [UInt8.toNat_ofNat']; simp; omega
    · rw [List.getElem?_eq_none (by simp; omega), List.getElem?_eq_none (by omega)]; rfl
  rw [this]
  refine LRel.same fun v hv => ?_
  obtain ⟨x, _, rfl⟩ := List.mem_map.1 hv
  exact crel_int _ _

/-- bytes.Join, nothing between. -/
def bjoinX : Array Value → Store → Option (Value × Store) := fun args M => match args.toList with
  | [.slice a n _, .slice none 0 _] => bif Nat.beq n 0 then some (.slice (some ⟨0, 0, none⟩) 0 2, M) else match a with
    | some ⟨b, o, none⟩ => match (rowOf M b o n).bind (partsOf M) with
      | some ls => bif Nat.beq (joinL [] ls).length 0 then (bif Nat.beq n 1 then some (.slice none 0 0, M) else bif Nat.ble n 140737488355328 then some (.slice (some ⟨0, 0, none⟩) 0 2, M) else none)
        else bif Nat.ble (joinL [] ls).length 140737488355328 && Nat.ble n 140737488355328 then some (.slice (some ⟨M.n, 0, none⟩) (joinL [] ls).length ((joinL [] ls).length + 2), M.push (some (.inl ((joinL [] ls).map bv, 0, false)))) else none
      | none => none
    | _ => none
  | _ => none
theorem joinL_nil : ∀ ls : List (List UInt8), joinL [] ls = ls.flatten
  | [] => rfl
  | [x] => by simp [joinL]
  | x :: y :: r => by rw [joinL, joinL_nil (y :: r)]; simp
theorem bjoinX_ok {P : Program} {ρ : Ren} (L : SlLaysJ.n14 P ρ) {fn : Func} {c : Code} (hf : P.funcs[ρ.f 14]? = some fn) (hb : fn.body = some c) (hn : (fn.name == "runtime.NumGoroutine") = false) : CallOk1 P (ρ.f 14) bjoinX := by
  intro args M v M' h
  unfold bjoinX at h
  split at h
  · rename_i a n cap c0 hargs
    have key : ∀ {μ : Map} {w : World} {cargs : Array Value}, LRel (VRel P μ w.shape?) cargs.toList args.toList → ∃ ac cc, cargs = #[.slice ac n cc, .slice none 0 0] ∧ SlRel P μ w.shape? ac n cc a n cap := by
      intro μ w cargs ha
      obtain ⟨x, y, rfl, hx, hy⟩ := args2 ha hargs
      cases x <;> first
        | exact hx.elim
        | skip
      rename_i ac nc cc
      have hx : SlRel P μ w.shape? ac nc cc a n cap := hx
      obtain rfl := hx.len
      cases y <;> first
        | exact hy.elim
        | skip
      rename_i bc nb cb
      have hy : SlRel P μ w.shape? bc nb cb none 0 c0 := hy
      obtain rfl := hy.len
      obtain ⟨_, rfl⟩ := hy.nil rfl
      have := hy.some_
      cases bc with
      | some _ => cases this
      | none => exact ⟨_, _, rfl, hx⟩
    cases h1 : Nat.beq n 0 with
    | true =>
      rw [h1, cond_true] at h
      injection h with h; injection h with h h'; subst h; subst h'
      obtain rfl := Nat.eq_of_beq_eq_true h1
      refine ⟨⟨⟨fn, c, hf, hb, hn⟩, Grow.refl _⟩, fun μ w cargs hG hR ha => ?_⟩
      obtain ⟨ac, cc, rfl, _⟩ := key ha
      refine (Any.bytes_Join_none L ac cc _ w).mono fun e w' ⟨he, hw⟩ => ⟨_, he, μ, ?_⟩
      subst hw
      obtain ⟨R1, S1⟩ := rel_below hR ((Below.refl _ w).alloc (Nat.le_refl _) (.cells #[] (ρ.t 5)))
      exact ⟨R1, S1, slice_zero (Nat.zero_le _) rfl⟩
    | false =>
      rw [h1, cond_false] at h
      split at h
      · rename_i b o
        split at h
        · rename_i ls hls
          obtain ⟨cs, hrow, hpa⟩ := Option.bind_eq_some_iff.1 hls
          have hn0 : 0 < n := by
            rcases n with _ | n
            · simp at h1
            · omega
          have get : ∀ {μ : Map} {w : World} {cargs : Array Value}, Rel P μ M w → LRel (VRel P μ w.shape?) cargs.toList args.toList → ∃ bk oo cc us, cargs = #[.slice (some ⟨bk, oo, none⟩) n cc, .slice none 0 0] ∧ n ≤ cc ∧ us.length = n ∧ ls.length = n ∧ Lib.PartsAt w ⟨bk, oo, none⟩ us ls := by
            intro μ w cargs hR ha
            obtain ⟨ac, cc, rfl, hS⟩ := key ha
            obtain ⟨y, rfl, ⟨_, k, hk, rfl⟩, _⟩ := hS.addr (.inl hn0) _ rfl
            obtain ⟨us, h3, h4, h5⟩ := row_rel hR hrow hk
            obtain ⟨h6, h7⟩ := partsOf_at hR hpa h3
            exact ⟨_, _, cc, us, rfl, hS.le, h4, by omega, h6, fun i v hv => by rw [addr_plus]; exact h5 i v hv, h7⟩
          have hsep : ∀ w : World, Lib.HoldsBytes w (.slice none 0 0) [] := fun w => ⟨none, 0, rfl, fun _ => rfl, fun _ h => by cases h⟩
          have many : ∀ {μ : Map} {w : World} {cargs : Array Value}, Rel P μ M w → LRel (VRel P μ w.shape?) cargs.toList args.toList → 2 ≤ n → n ≤ 140737488355328 → (joinL [] ls).length ≤ 140737488355328 →
              Calls P (ρ.f 14) cargs w fun e w' => ∃ v', e = .returned v' ∧ Lib.FreshBytes w.heap.size w' v' (joinL [] ls) ∧ Below w.heap.size w w' := by
            intro μ w cargs hR ha h2 h47 hlen
            obtain ⟨bk, oo, cc, us, rfl, hcc, hu, hl, hP⟩ := get hR ha
            rw [joinL_eq]
            refine Any.bytes_Join_many L bk oo n cc us ls _ [] w hl h2 hP hcc (hsep w) h47 ?_
            rw [joinL_nil, List.length_flatten] at hlen
            simpa [Lib.lens] using hlen
          cases h2 : Nat.beq (joinL [] ls).length 0 with
          | true =>
            rw [h2, cond_true] at h
            have h2 := Nat.eq_of_beq_eq_true h2
            cases h3 : Nat.beq n 1 with
            | true =>
              rw [h3, cond_true] at h
              injection h with h; injection h with h h'; subst h; subst h'
              obtain rfl := Nat.eq_of_beq_eq_true h3
              refine ⟨⟨⟨fn, c, hf, hb, hn⟩, Grow.refl _⟩, fun μ w cargs hG hR ha => ?_⟩
              obtain ⟨bk, oo, cc, us, rfl, hcc, hu, hl, hP⟩ := get hR ha
              match us, ls, hu, hl, hP, h2 with
              | [u], [l], _, _, hP, h2 =>
                have hl0 : l = [] := List.length_eq_zero_iff.1 h2
                subst hl0
                obtain ⟨p, cap, rfl, _, _⟩ := hP.2.2 0 u [] rfl rfl
                have hc0 := hP.2.1 0 _ rfl
                rw [addr_plus, Nat.add_zero] at hc0
                refine (Any.bytes_Join_one_empty L bk oo cc p cap _ w hc0).mono fun e w' ⟨he, hw⟩ => ⟨_, he, μ, ?_⟩
                subst hw
                exact ⟨hR, Step.refl _ _ _, VRel.of_B (plain_B rfl)⟩
            | false =>
              rw [h3, cond_false] at h
              cases h4 : Nat.ble n 140737488355328 with
              | false => rw [h4] at h; cases h
              | true =>
                rw [h4, cond_true] at h
                injection h with h; injection h with h h'; subst h; subst h'
                refine ⟨⟨⟨fn, c, hf, hb, hn⟩, Grow.refl _⟩, fun μ w cargs hG hR ha => ?_⟩
                have hn2 : 2 ≤ n := by
                  rcases n with _ | _ | n
                  · omega
                  · simp at h3
                  · omega
                refine (many hR ha hn2 (Nat.le_of_ble_eq_true h4) (by omega)).mono fun e w' ⟨v', he, hF, hB⟩ => ⟨v', he, μ, ?_⟩
                obtain ⟨R1, S1⟩ := rel_below hR hB
                obtain ⟨g, cap, zs, rfl, _, _, hmax, _⟩ := hF
                refine ⟨R1, S1, ?_⟩
                rw [h2]; exact slice_zero hmax rfl
          | false =>
            rw [h2, cond_false] at h
            have hl0 : 0 < (joinL [] ls).length := by
              rcases hq : (joinL [] ls).length with _ | q
              · rw [hq] at h2; simp at h2
              · omega
            cases h4 : Nat.ble (joinL [] ls).length 140737488355328 && Nat.ble n 140737488355328 with
            | false => rw [h4] at h; cases h
            | true =>
              rw [h4, cond_true] at h
              injection h with h; injection h with h h'; subst h; subst h'
              rw [Bool.and_eq_true] at h4
              have h5 := Nat.le_of_ble_eq_true h4.1
              have h6 := Nat.le_of_ble_eq_true h4.2
              refine ⟨⟨⟨fn, c, hf, hb, hn⟩, Grow.push _ _⟩, fun μ w cargs hG hR ha => ?_⟩
              have all : Calls P (ρ.f 14) cargs w fun e w' => ∃ v', e = .returned v' ∧ Lib.FreshBytes w.heap.size w' v' (joinL [] ls) ∧ Below w.heap.size w w' := by
                rcases Nat.lt_or_ge n 2 with hn2 | hn2
                · obtain rfl : n = 1 := by omega
                  obtain ⟨bk, oo, cc, us, rfl, hcc, hu, hl, hP⟩ := get hR ha
                  match us, ls, hu, hl, hP, hl0, h5 with
                  | [u], [l], _, _, hP, hl0, h5 =>
                    obtain ⟨p, cap, rfl, hp, hcl⟩ := hP.2.2 0 u l rfl rfl
                    have hc0 := hP.2.1 0 _ rfl
                    rw [addr_plus, Nat.add_zero] at hc0
                    cases p with
                    | none => have := hp rfl; subst this; simp [joinL] at hl0
                    | some ad => exact Any.bytes_Join_one L bk oo cc ad cap l _ w hc0 (hcl ad rfl) hl0 h5
                · exact many hR ha hn2 h6 h5
              exact all.mono fun e w' ⟨v', he, hF, hB⟩ => ⟨v', he, fresh_made hR hB hF hl0 0⟩
        · cases h
      · cases h
  · cases h

end Go.Ab
