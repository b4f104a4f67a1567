/- The abstract machine's append is the model's: the three ways. -/
import Derived.Test.YtmdbdbjaipcgeaaAbMem5
set_option linter.unusedVariables false
set_option linter.unusedSimpArgs false
namespace Go.Ab
open Go.RowKit

theorem rel_kill {P : Program} {μ : Map} {M : Store} {w : World} (hR : Rel P μ M w) {i : Nat} {l : Loc} {x} (hi : μ i = some l) (hg : M.get i = some x) : Rel P μ (M.set i none) w ∧ Step μ M w μ (M.set i none) w := by
  refine ⟨⟨fun j k hj => ?_, fun j k hj => ?_, fun j k lj lk hj hk hjk gj gk ho => ?_⟩, ⟨.refl _, by simp, Nat.le_refl _, rfl, rfl, rfl, .refl _, [i], by rw [M.set_log none hg]; rfl, fun _ _ _ => rfl, fun _ _ h => .inl h⟩⟩
  · have := hR.dom _ _ hj; exact ⟨by simpa using this.1, this.2⟩
  · by_cases e : i = j
    · subst e; rw [M.get_set_eq none hg]; trivial
    · rw [M.get_set_ne none e]; exact hR.obj _ _ hj
  · have live : ∀ q, (M.set i none).get q ≠ none → M.get q ≠ none := fun q hq => by
      by_cases e : i = q
      · subst e; rw [hg]; simp
      · rwa [M.get_set_ne none e] at hq
    exact hR.excl j k lj lk hj hk hjk (live _ gj) (live _ gk) ho

theorem sliceT_eq {d : Option TypeDesc} {e : TypeId} (h : sliceT d = some e) : d = some (.slice e) := by
  unfold sliceT at h
  split at h
  · injection h with h; subst h; rfl
  · cases h

theorem agrow_run {P : Program} {μ : Map} {M M' : Store} {w : World} (hR : Rel P μ M w) {ts : Array TypeId} {ty t xt e : TypeId} {s by_ n m cap cc : Nat} {base ac : Option Addr} {ys : List Value} {cx r z : Value} {cn : Array Value}
    (h : agrow base n cap s e m ys M = some (r, M')) (hs : SlRel P μ w.shape? ac n cc base n cap) (ht : ts[0]? = some t) (hxt : ts[1]? = some xt) (hu : P.underlying t = some (.slice e)) (hsz : szOf P e = some s) (hby : byOf P e = some by_)
    (hN : News P w xt e s m cx cn) (hcn : LRel (CRel P μ w.shape?) cn.toList ys) (hcnl : cn.toList.length = m * s) (hz : zrOf P e = some z) (hzs : z.cells.size = s) (hs0 : 0 < s) (h0 : ¬ m = 0) (hnm : n + m ≤ 2 ^ 28) (hb12 : by_ ≤ 2 ^ 12) :
    ∃ cr w', (Builtin.append_ ts ty #[.slice ac n cc, cx]).run P w = .ok cr w' ∧ Made P μ M w r M' cr w' := by
  -- a new block
  have grow : ∀ (M : Store) (hR : Rel P μ M w) (old : Array Value) (oldA : List Value), cc < n + m → (∀ w' : World, w'.heap = w.heap → (Builtin.firstCells s n (.slice ac n cc)).run P w' = .ok old w') → LRel (CRel P μ w.shape?) old.toList oldA → oldA.length = n * s →
      ∃ cr w', (Builtin.append_ ts ty #[.slice ac n cc, cx]).run P w = .ok cr w' ∧ Made P μ M w (.slice (some ⟨M.n, 0, none⟩) (n + m) (n + m + 1)) (M.push (some (.inl (oldA ++ ys, e, true)))) cr w' := by
    intro M hR old oldA hlt hf hrel hlen
    have hg := append_grow ht hxt hu hsz hby hN hlt hnm hb12 hz hf (ty := ty)
    have hK := grownCap_ge w (n + m) cc e
    have hK2 := grownCap_le_maxLen w (n + m) cc e (by simp only [maxLen]; omega)
    have hNB := NewB.drew_alloc w (.cells (old ++ cn ++ Builtin.zeroCells z.cells (grownCap w (n + m) cc e - (n + m))) e)
    obtain ⟨h1, h2⟩ := rel_newCells hR hNB (oldA ++ ys) (by
      have hl : (oldA ++ ys).length = (old ++ cn).toList.length := by simp [← hrel.1, ← hcn.1]
      rw [hl]
      simp only [Array.toList_append]
      rw [List.take_left]
      exact hrel.append hcn) (.inl rfl)
    refine ⟨_, _, hg, _, h1, h2, slice_new hNB hsz hK hK2 (by omega) ?_⟩
    have o1 : old.size = n * s := by have := hrel.1; simp only [Array.length_toList] at this; omega
    have o2 : cn.size = m * s := by simpa using hcnl
    simp only [Array.size_append, o1, o2, zeroCells_eq, zerosOf_size, hzs]
    rw [← Nat.add_mul, ← Nat.add_mul]
    apply Nat.mul_le_mul_right
    omega
  unfold agrow at h
  split at h
  · split at h
    · rename_i h1
      subst h1
      injection h with h; injection h with h h'; subst h; subst h'
      obtain ⟨_, hcc⟩ := hs.nil rfl
      have := hs.some_
      cases ac <;> simp at this
      exact grow M hR #[] [] (by omega) (fun w' _ => by simp [Builtin.firstCells]) (.nil _) (by simp)
    · cases h
  · rename_i b o
    split at h
    · rename_i hfull
      have hcc := hs.full hfull
      split at h
      · rename_i h1
        subst h1
        injection h with h; injection h with h h'; subst h; subst h'
        have := hs.some_
        cases ac with
        | none => simp at this
        | some a => exact grow M hR #[] [] (by omega) (fun w' _ => by simp [Builtin.firstCells, loadCells, loadCellsFrom]) (.nil _) (by simp)
      · rename_i h1
        obtain ⟨old, hold, h⟩ := Option.bind_eq_some_iff.1 h
        injection h with h; injection h with h h'; subst h; subst h'
        obtain ⟨y, rfl, ⟨_, loc, hloc, rfl⟩, _⟩ := hs.addr (.inl (by omega)) _ rfl
        obtain ⟨us, g1, g2, g3⟩ := row_rel hR hold hloc
        exact grow M hR us.toArray old (by omega) (fun w' hw => by
          simp only [Builtin.firstCells]
          exact run_loadRow loc.b (loc.o + o) (n * s) g2 fun j v hj => by
            have := g3 j v hj
            simpa [World.cell?, hw] using this) (by simpa using g1) (by rw [← g1.1, g2])
    · split at h
      · rename_i hnf hcap
        split at h
        · rename_i c e' hg
          split at h
          · rename_i hq
            obtain ⟨rfl, hclx, rfl⟩ := hq
            injection h with h; injection h with h h'; subst h; subst h'
            obtain ⟨y, rfl, ⟨_, loc, hloc, rfl⟩, hroom⟩ := hs.addr (.inr hcap) _ rfl
            obtain ⟨ho, ho0, cc0, fr, hb, hcl0x, hrelx, hfr⟩ := own_block hR hloc hg
            have hcl1 : (c.take (n * s)).length = n * s := by simp; omega
            have hcl01 : (c.take (n * s)).length ≤ cc0.size := by omega
            have hrel1 : LRel (CRel P μ w.shape?) (cc0.toList.take (c.take (n * s)).length) (c.take (n * s)) := by
              have := hrelx.take (n * s)
              rw [List.take_take, Nat.min_eq_left hclx] at this
              rw [hcl1]; exact this
            obtain ⟨c1, hc1⟩ : ∃ c1, c1 = c.take (n * s) := ⟨_, rfl⟩
            rw [← hc1] at hcl1 hcl01 hrel1 ⊢
            have hcl := hcl1
            have hcl0 := hcl01
            have hrel := hrel1
            obtain ⟨e0, N0, s0, r1, r2, r3⟩ := hroom loc hloc ho
            have r1' : w.shape? loc.b = some (e', cc0.size) := by simp [World.shape?, hb]
            rw [r1'] at r1
            obtain ⟨rfl, rfl⟩ : e' = e0 ∧ cc0.size = N0 := by simpa using r1
            rw [hsz] at r2
            injection r2 with r2
            subst r2
            by_cases hfit : n + m ≤ cc
            · -- within the capacity
              have hroom2 : loc.o + 0 + n * s + cn.toList.length ≤ cc0.size := by
                rw [hcnl, ho0]
                have : (n + m) * s ≤ cc * s := Nat.mul_le_mul_right _ hfit
                rw [Nat.add_mul] at this
                simp only [ho0] at r3
                omega
              obtain ⟨w', cc', q1, q2, q3, q4⟩ := run_storeRow (P := P) (b := loc.b) (o := loc.o + 0 + n * s) cn.toList 0 cc0 w hb (by omega) hfr.cells (fun u hu => by
                obtain ⟨i, hi, rfl⟩ := List.getElem_of_mem hu
                obtain ⟨x, _, hx⟩ := hcn.get' (List.getElem?_eq_getElem hi)
                exact hx.one.1)
              have hlen' : cc'.size = cc0.size := by
                have : cc'.toList.length = cc0.toList.length := by rw [q3, splice_length (by simp only [Array.length_toList]; omega)]
                simpa using this
              have hold : ∀ u v, CRel P μ w.shape? u v → CRel P (upd μ M.n loc) w'.shape? u v := fun u v => CRel.mono (MLe.upd hR.fresh) q4.sle
              obtain ⟨h1, h2⟩ := rel_move hR hloc hg ho q4 (some (.inl (c1 ++ ys, e', true))) ⟨ho.symm, cc', e', fr, q2, by
                rw [ho0, List.drop_zero, q3, ho0, Nat.add_zero, Nat.zero_add]
                have e1 : splice cc0.toList (n * s) cn.toList = cc0.toList.take c1.length ++ cn.toList ++ cc0.toList.drop (n * s + cn.toList.length) := by rw [hcl]; rfl
                have e2 : (cc0.toList.take c1.length ++ cn.toList).length = (c1 ++ ys).length := by
                  simp only [List.length_append, List.length_take, Array.length_toList, hcn.1]
                  have := hcn.1
                  simp only [Array.length_toList] at this
                  omega
                rw [e1, ← e2, List.take_left]
                exact (hrel.mono hold).append (hcn.mono hold), fun _ => ⟨rfl, ho0, by rw [hlen']; exact hfr⟩⟩
              refine ⟨.slice (some ⟨loc.b, loc.o + 0, none⟩) (n + m) cc, w', append_fit ht hxt hu hsz hby hN hfit w' ?_, _, h1, h2, ?_⟩
              · simp only [addr_add]; exact q1
              · refine ⟨rfl, hfit, hs.max, fun q => by omega, rfl, fun q => (by cases q), fun _ x hx => ?_⟩
                injection hx with hx; subst hx
                refine ⟨_, rfl, ⟨rfl, loc, upd_eq _ _ _, by rw [ho0]⟩, fun l hl _ => ?_⟩
                have hl' : loc = l := by
                  have := upd_eq μ M.n loc
                  rw [hl] at this; injection this with this; exact this.symm
                subst hl'
                exact ⟨e', cc0.size, s, q4.sle _ _ r1', hsz, by simpa using r3⟩
            · have hk := rel_kill hR hloc hg
              have := grow (M.set b none) hk.1 (cc0.toList.take c1.length).toArray c1 (by omega) (fun w' hw => by
                simp only [Builtin.firstCells]
                refine run_loadRow loc.b (loc.o + 0) (n * s) (us := cc0.toList.take c1.length) (by simp only [List.length_take, Array.length_toList]; omega) fun j v hj => ?_
                rw [List.getElem?_take] at hj
                split at hj
                · rw [ho0]
                  simp only [World.cell?, hw, hb]
                  simpa using hj
                · cases hj) (by simpa using hrel) hcl
              obtain ⟨cr, w', k1, μ', k2, k3, k4⟩ := this
              rw [M.set_n] at k4
              exact ⟨cr, w', k1, μ', k2, hk.2.trans hR.dom k3, k4⟩
          · cases h
        · cases h
      · cases h
  · cases h

theorem aappend_run {P : Program} {μ : Map} {M M' : Store} {w : World} (hR : Rel P μ M w) {ts : Array TypeId} {ty : TypeId} {v x cv cx r : Value} (h : aappend P ts v x M = some (r, M')) (hv : VRel P μ w.shape? cv v) (hx : VRel P μ w.shape? cx x) :
    ∃ cr w', (Builtin.append_ ts ty #[cv, cx]).run P w = .ok cr w' ∧ Made P μ M w r M' cr w' := by
  unfold aappend at h
  obtain ⟨t, ht, h⟩ := Option.bind_eq_some_iff.1 h
  obtain ⟨xt, hxt, h⟩ := Option.bind_eq_some_iff.1 h
  obtain ⟨e, he, h⟩ := Option.bind_eq_some_iff.1 h
  have hu := sliceT_eq he
  obtain ⟨s, hsz, h⟩ := Option.bind_eq_some_iff.1 h
  obtain ⟨by_, hby, h⟩ := Option.bind_eq_some_iff.1 h
  obtain ⟨z, hz, h⟩ := Option.bind_eq_some_iff.1 h
  obtain ⟨⟨m, ys⟩, hnew, h⟩ := Option.bind_eq_some_iff.1 h
  obtain ⟨cn, hN, hcn, hys⟩ := anews_run hR hnew hx
  simp only [] at h
  have hcnl : cn.toList.length = m * s := by rw [hcn.1, hys]
  obtain ⟨base, n, cap, rfl⟩ : ∃ base n cap, v = .slice base n cap := by
    cases v <;> first | exact ⟨_, _, _, rfl⟩ | (cases h)
  · obtain ⟨ac, cc, rfl, hs⟩ := hv.slice
    simp only [] at h
    split at h
    · -- nothing is appended
      rename_i h0
      subst h0
      injection h with h; injection h with h h'; subst h; subst h'
      have hcn0 : cn.toList = [] := List.eq_nil_of_length_eq_zero (by rw [hcnl, Nat.zero_mul])
      refine ⟨_, w, append_fit ht hxt hu hsz hby hN (by have := hs.le; omega) w ?_, μ, hR, .refl _ _ _, hv⟩
      cases ac with
      | none => rfl
      | some a => rw [hcn0]; rfl
    · rename_i h0
      split at h
      · rename_i hp
        obtain ⟨hnm, hb12, hs0, hzs⟩ := hp
        exact agrow_run hR h hs ht hxt hu hsz hby hN hcn hcnl hz hzs hs0 h0 hnm hb12
      · cases h

end Go.Ab
