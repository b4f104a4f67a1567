/- ... -/
import Derived.Test.YtnonfejhkbaikaaPUM
import Derived.Test.YtnonfejhkbaikaaPUK
import Derived.Test.YtnonfejhkbaikaaPUN
namespace Go.G
open Go.Ab
set_option linter.unusedVariables false
set_option linter.unusedSimpArgs false
set_option maxRecDepth 100000
def ru0 : RuT := ⟨[], [], [], [], false⟩
def pD (r : RuT) (s : List UInt8) : Bool := decide (s ∈ r.ins) || decide (s ∈ r.order)
def jy (i k : RuT) : Bool := i.outs.any (pD k)
def ndN (rs : List RuT) (k : Nat) : List Nat := (List.range rs.length).filter fun i => jy (rs.getD i ru0) (rs.getD k ru0)
def aj (l : List Nat) : List Int := l.map fun i : Nat => (i : Int)
theorem aK {rs : List RuT} {i : Nat} (h : i < rs.length) : rs.getD i ru0 = rs[i] := by rw [List.getD_eq_getElem?_getD, List.getElem?_eq_getElem h]; rfl
theorem Fb {rs : List RuT} {k i : Nat} (h : i ∈ ndN rs k) : i < rs.length := by
 unfold ndN at h
 rw [List.mem_filter, List.mem_range] at h; exact h.1
theorem yl (i k : RuT) : jy i k = true ↔ ∃ s ∈ i.outs, s ∈ k.ins ++ k.order := by
 unfold jy pD
 simp only [List.any_eq_true, Bool.or_eq_true, decide_eq_true_eq, List.mem_append]
theorem tf {rs : List RuT} {k i : Nat} (hk : k < rs.length) : i ∈ ndN rs k ↔ ∃ h : i < rs.length, ∃ s ∈ rs[i].outs, s ∈ rs[k].ins ++ rs[k].order := by
 unfold ndN
 rw [List.mem_filter, List.mem_range]
 constructor
 ·rintro ⟨h, h2⟩
  rw [aK h, aK hk, yl] at h2
  exact ⟨h, h2⟩
 ·rintro ⟨h, h2⟩
  refine ⟨h, ?_⟩
  rw [aK h, aK hk, yl]
  exact h2
theorem OkRs.at : ∀ {rs : List RuT} {seen : List (List UInt8)}, OkRs seen rs → ∀ {k : Nat} (hk : k < rs.length), kZ (seen ++ (rs.take k).flatMap (·.outs)) rs[k]
 | r :: rs, seen, h, 0, _ => by simpa using h.1
 | r :: rs, seen, h, k + 1, hk => by
  have := h.2.at (k := k) (by simpa using hk)
  simpa [List.append_assoc] using this
 | [], _, _, k, hk => absurd hk (Nat.not_lt_zero _)
theorem BackRs.at : ∀ {rs : List RuT} {seen : List (List UInt8)}, BackRs seen rs → ∀ {k : Nat} (hk : k < rs.length), (∀ x ∈ rs[k].ins ++ rs[k].order, x ∈ seen ++ (rs.take k).flatMap (·.outs) ∨ x ∈ srS) ∧ ∀ o ∈ rs[k].outs, o ∉ srS
 | r :: rs, seen, h, 0, _ => ⟨fun x hx => by simpa using h.1 x hx, h.2.1⟩
 | r :: rs, seen, h, k + 1, hk => by
  have := h.2.2.at (k := k) (by simpa using hk)
  simpa [List.append_assoc] using this
 | [], _, _, k, hk => absurd hk (Nat.not_lt_zero _)
theorem HF {rs : List RuT} (ho : OkRs [] rs) (hb : BackRs [] rs) {k : Nat} (hk : k < rs.length) : ∀ i ∈ ndN rs k, i < k := by
 intro i hi
 obtain ⟨hil, s, h1, h2⟩ := (tf hk).1 hi
 rcases Nat.lt_or_ge i k with h | h
 ·exact h
 ·exfalso
  rcases (hb.at hk).1 s h2 with hs | hs
  ·rw [List.nil_append] at hs
   have := ((ho.at hil).ok s h1).2
   rw [List.nil_append] at this
   refine this ?_
   obtain ⟨r, hr, hs⟩ := List.mem_flatMap.1 hs
   exact List.mem_flatMap.2 ⟨r, (List.take_subset_take_left rs h) hr, hs⟩
  ·exact (hb.at hil).2 s h1 hs
theorem jc {l : List Nat} {z : Int} : z ∈ aj l ↔ ∃ i ∈ l, (i : Int) = z := by unfold aj; simp
theorem av (l : List Nat) : (aj l).length = l.length := by simp [aj]
theorem fG (l : List Nat) (i : Nat) : aj (l ++ [i]) = aj l ++ [(i : Int)] := by simp [aj]
end Go.G

namespace Go.G
open Go.Ab Go.Proofs Go.RowKit
set_option linter.unusedVariables false
set_option linter.unusedSimpArgs false
set_option maxRecDepth 100000
def mcs (vR vD : Value) : List Value := [vR, vD]
def MV (M : Store) (v : Value) (rs : List RuT) (ds : List (List UInt8)) : Prop := ∃ vR vD, v = .agg (mcs vR vD).toArray ∧ RL M vR rs ∧ LV sv Ty.a M vD ds
theorem MV.up {M M' : Store} {v : Value} {rs : List RuT} {ds : List (List UInt8)} (h : MV M v rs ds) (k : Up M M') : MV M' v rs ds := by
 obtain ⟨vR, vD, rfl, h1, h2⟩ := h
 exact ⟨vR, vD, rfl, h1.up k, h2.up k⟩
theorem RL.slice {M : Store} {v : Value} {rs : List RuT} (h : RL M v rs) : ∃ a n c, v = .slice a n c := by
 obtain ⟨cs, h1, h2⟩ := h
 obtain ⟨a, c, e⟩ := Sl.slice h1; exact ⟨_, _, _, e⟩
theorem da {M : Store} {vR vD : Value} {rs : List RuT} {ds : List (List UInt8)} (h1 : RL M vR rs) (h2 : LV sv Ty.a M vD ds) : aX (.agg (mcs vR vD).toArray) = some (mcs vR vD) := by
 obtain ⟨a, n, c, rfl⟩ := h1.slice
 obtain ⟨a', c', rfl⟩ := Sl.slice h2
 kernel_rfl
abbrev Mz (M : Store) (b : Nat) (vR vD : Value) : Prop := Ob M b (mcs vR vD) Ty.d
theorem bw {M : Store} {b : Nat} {vR vD : Value} (o : Mz M b vR vD) (K : Value → Prop) : (OP (fad 0 (pt b)) fun t => OP (ld 1 false t M) K) = K vR := by
 rw [aS, show ld 1 false (.pointer (some ⟨b, 0, none⟩)) M = some vR from Ob.ld (o := 0) o rfl, ab]
theorem JR {M : Store} {b : Nat} {vR vD : Value} (o : Mz M b vR vD) (K : Value → Prop) : (OP (fad 1 (pt b)) fun t => OP (ld 1 false t M) K) = K vD := by
 rw [aS, show ld 1 false (.pointer (some ⟨b, 1, none⟩)) M = some vD from Ob.ld (o := 1) o rfl, ab]
theorem kD (z : Int) (K : List Value → Prop) : OP (al (.int .i64 0) 1 1 [(0, iv z)]) K = K [iv z] := by kernel_rfl
section
variable {M0 : Store} {b : Nat} {vR vD : Value} {rs : List RuT} {k : Nat} {Q : Value → Store → Prop}
theorem HG {M : Store} (o : Mz M b vR vD) (h : RL M vR rs) (hk : k < rs.length) (hl : rs[k].ins.length ≤ 2 ^ 40) {x5 x6 x8 : Value} {s : List UInt8} (hn : ∀ c : Bool, fu (iv (k : Int)) (pt b) x5 x6 (tv c) x8 (sv s) M Q → True) :
    ∀ (d j : Nat) (c : Bool), d + j = rs[k].ins.length → (fu (iv (k : Int)) (pt b) x5 x6 (tv (c || decide (s ∈ rs[k].ins.drop j))) x8 (sv s) M Q) → db (iv (k : Int)) (pt b) x5 x6 (tv c) x8 (sv s) (iv (j : Int)) M Q := by
 obtain ⟨c0, hc, hf⟩ := h.fld hk
 intro d
 induction d with
 | zero =>
  intro j c hj hQ
  apply rR
  unfold lN
  rw [bw o, hf 1 c0.2.1 rfl, hc.i.len, ab, ag, ae, if_neg (by omega)]
  rw [List.drop_of_length_le (by omega)] at hQ
  simpa using hQ
 | succ d ih =>
  intro j c hj hQ
  have hjl : j < rs[k].ins.length := by omega
  rw [List.drop_eq_getElem_cons hjl] at hQ
  apply rR
  unfold lN
  rw [bw o, hf 1 c0.2.1 rfl, hc.i.len, ab, ag, ae, if_pos hjl]
  apply zH
  unfold qV
  cases c with
  | true =>
   rw [bC, ah _ (by omega)]
   exact ih (j + 1) true (by omega) (by simpa using hQ)
  | false =>
   obtain ⟨p, e1, e2⟩ := hc.i.at hjl .i64
   rw [aI, bw o, hf 1 c0.2.1 rfl, e1, ab, e2, ab, jz, ah _ (by omega)]
   refine ih (j + 1) _ (by omega) ?_
   have : (decide (rs[k].ins[j] = s) || decide (s ∈ rs[k].ins.drop (j + 1))) = (false || decide (s ∈ rs[k].ins[j] :: rs[k].ins.drop (j + 1))) := by
    rw [Bool.false_or]
    by_cases h1 : rs[k].ins[j] = s
    ·rw [decide_eq_true h1, Bool.true_or, decide_eq_true]; rw [h1]; exact List.mem_cons_self
    ·rw [decide_eq_false h1, Bool.false_or]
     congr 1
     rw [List.mem_cons]
     exact propext ⟨fun h => .inr h, fun h => h.resolve_left fun e => h1 e.symm⟩
   rw [this]; exact hQ
theorem HH {M : Store} (o : Mz M b vR vD) (h : RL M vR rs) (hk : k < rs.length) (hl : rs[k].order.length ≤ 2 ^ 40) {x5 x6 x8 : Value} {s : List UInt8} :
    ∀ (d j : Nat) (c : Bool), d + j = rs[k].order.length → (gv (iv (k : Int)) (pt b) x5 x6 (tv (c || decide (s ∈ rs[k].order.drop j))) x8 M Q) → cT (iv (k : Int)) (pt b) x5 x6 (tv c) x8 (sv s) (iv (j : Int)) M Q := by
 obtain ⟨c0, hc, hf⟩ := h.fld hk
 intro d
 induction d with
 | zero =>
  intro j c hj hQ
  apply qq
  unfold j8
  rw [bw o, hf 2 c0.2.2.1 rfl, hc.d.len, ab, ag, ae, if_neg (by omega)]
  rw [List.drop_of_length_le (by omega)] at hQ
  simpa using hQ
 | succ d ih =>
  intro j c hj hQ
  have hjl : j < rs[k].order.length := by omega
  rw [List.drop_eq_getElem_cons hjl] at hQ
  apply qq
  unfold j8
  rw [bw o, hf 2 c0.2.2.1 rfl, hc.d.len, ab, ag, ae, if_pos hjl]
  apply yP
  unfold qd
  cases c with
  | true =>
   rw [bC, ah _ (by omega)]
   exact ih (j + 1) true (by omega) (by simpa using hQ)
  | false =>
   obtain ⟨p, e1, e2⟩ := hc.d.at hjl .i64
   rw [aI, bw o, hf 2 c0.2.2.1 rfl, e1, ab, e2, ab, jz, ah _ (by omega)]
   refine ih (j + 1) _ (by omega) ?_
   have : (decide (rs[k].order[j] = s) || decide (s ∈ rs[k].order.drop (j + 1))) = (false || decide (s ∈ rs[k].order[j] :: rs[k].order.drop (j + 1))) := by
    rw [Bool.false_or]
    by_cases h1 : rs[k].order[j] = s
    ·rw [decide_eq_true h1, Bool.true_or, decide_eq_true]; rw [h1]; exact List.mem_cons_self
    ·rw [decide_eq_false h1, Bool.false_or]
     congr 1
     rw [List.mem_cons]
     exact propext ⟨fun h => .inr h, fun h => h.resolve_left fun e => h1 e.symm⟩
   rw [this]; exact hQ
def ef (rs : List RuT) : Prop := rs.length ≤ 2 ^ 20 ∧ ∀ r ∈ rs, r.outs.length ≤ 2 ^ 20 ∧ r.ins.length ≤ 2 ^ 20 ∧ r.order.length ≤ 2 ^ 20
theorem Fd {M : Store} (o : Mz M b vR vD) (h : RL M vR rs) (hs : ef rs) (hk : k < rs.length) {i : Nat} (hi : i < rs.length) {x5 : Value} :
    ∀ (d j : Nat) (c : Bool), d + j = rs[i].outs.length → (hX (iv (k : Int)) (pt b) x5 (iv (i : Int)) (tv (c || (rs[i].outs.drop j).any (pD rs[k]))) M Q) → dV (iv (k : Int)) (pt b) x5 (iv (i : Int)) (tv c) (iv (j : Int)) M Q := by
 obtain ⟨c0, hc, hf⟩ := h.fld hi
 have hsi := hs.2 _ (List.getElem_mem hi)
 have hsk := hs.2 _ (List.getElem_mem hk)
 intro d
 induction d with
 | zero =>
  intro j c hj hQ
  apply rQ
  unfold lL
  rw [bw o, hf 0 c0.1 rfl, hc.o.len, ab, ag, ae, if_neg (by omega)]
  rw [List.drop_of_length_le (by omega)] at hQ
  simpa using hQ
 | succ d ih =>
  intro j c hj hQ
  have hjl : j < rs[i].outs.length := by omega
  rw [List.drop_eq_getElem_cons hjl, List.any_cons] at hQ
  apply rQ
  unfold lL
  rw [bw o, hf 0 c0.1 rfl, hc.o.len, ab, ag, ae, if_pos hjl]
  apply zE
  unfold qR
  obtain ⟨p, e1, e2⟩ := hc.o.at hjl .i64
  rw [bw o, hf 0 c0.1 rfl, e1, ab, e2, ab]
  refine HG o h hk (by omega) (fun _ _ => trivial) rs[k].ins.length 0 c rfl ?_
  apply zI
  unfold qW
  refine HH o h hk (by omega) rs[k].order.length 0 _ rfl ?_
  apply yQ
  unfold qe
  rw [ah _ (by omega)]
  refine ih (j + 1) _ (by omega) ?_
  rw [List.drop_zero, List.drop_zero]
  rw [show (c || decide (rs[i].outs[j] ∈ rs[k].ins) || decide (rs[i].outs[j] ∈ rs[k].order) || (rs[i].outs.drop (j + 1)).any (pD rs[k])) = (c || (pD rs[k] rs[i].outs[j] || (rs[i].outs.drop (j + 1)).any (pD rs[k]))) by unfold pD; simp only [Bool.or_assoc]]
  exact hQ
theorem Gm {n : Nat} (o : Mz M0 b vR vD) (h : RL M0 vR rs) (hs : ef rs) (hk : k < rs.length) (hQ : ∀ w M, Up M0 M → NV iv Ty.b M0 M w (aj (ndN rs k)) → Q w M) :
    ∀ (d i : Nat) (x5 : Value) (M : Store), d + i = rs.length → Up M0 M → NV iv Ty.b M0 M x5 (aj ((List.range i).filter fun i => jy (rs.getD i ru0) (rs.getD k ru0))) → dU (iv (k : Int)) (pt b) x5 (iv (i : Int)) M Q := by
 intro d
 induction d with
 | zero =>
  intro i x5 M hi hu hN
  apply rP
  unfold lK
  rw [bw (o.up hu), (h.up hu).len, ab, ag, ae, if_neg (by omega)]
  apply zD
  unfold qQ
  have : i = rs.length := by omega
  subst this
  exact ⟨eI hN.lv, hQ _ _ hu hN⟩
 | succ d ih =>
  intro i x5 M hi hu hN
  have hil : i < rs.length := by omega
  apply rP
  unfold lK
  rw [bw (o.up hu), (h.up hu).len, ab, ag, ae, if_pos hil]
  refine Fd (o.up hu) (h.up hu) hs hk hil rs[i].outs.length 0 false rfl ?_
  rw [List.drop_zero, Bool.false_or]
  have hfl : ((List.range i).filter fun i => jy (rs.getD i ru0) (rs.getD k ru0)).length ≤ i := by
   have := List.length_filter_le (fun i => jy (rs.getD i ru0) (rs.getD k ru0)) (List.range i)
   rwa [List.length_range] at this
  have hsl := hs.1
  have e : jy (rs.getD i ru0) (rs.getD k ru0) = rs[i].outs.any (pD rs[k]) := by rw [aK hil, aK hk]; rfl
  apply zF
  unfold qT
  have next : ∀ (w : Value) (M' : Store), Up M0 M' → NV iv Ty.b M0 M' w (aj ((List.range (i + 1)).filter fun i => jy (rs.getD i ru0) (rs.getD k ru0))) → ft (iv (k : Int)) (pt b) w (iv (i : Int)) M' Q := fun w M' hu' hN' => by
   apply zG
   unfold qU
   rw [ah _ (by omega)]
   exact ih (i + 1) w M' (by omega) hu' hN'
  cases hb : rs[i].outs.any (pD rs[k]) with
  | true =>
   rw [bC, kD, aY]
   refine NV.app1 (M0 := M0) (Mb := M0) hu (Nat.le_refl _) hu.n hN (i : Int) rfl (by rw [av]; omega) fun w M' hu' hN' _ _ => next w M' hu' ?_
   rw [List.range_succ, List.filter_append, List.filter_cons_of_pos (by rw [e, hb]), List.filter_nil, fG]
   exact hN'
  | false =>
   rw [aI]
   refine next x5 M hu ?_
   rw [List.range_succ, List.filter_append, List.filter_cons_of_neg (by rw [e, hb]; decide), List.filter_nil, List.append_nil]
   exact hN
theorem zd {M : Store} {v : Value} {ds : List (List UInt8)} (h : MV M v rs ds) (hs : ef rs) (hk : k < rs.length) : R F.G #[v, iv (k : Int)] M fun w M' => Up M M' ∧ NV iv Ty.b M M' w (aj (ndN rs k)) := by
 refine R.cps fun Q hQ => ?_
 obtain ⟨vR, vD, rfl, h1, h2⟩ := h
 apply CM
 unfold vh
 rw [da h1 h2, ab]
 refine aq fun M1 u1 o1 n1 => ?_
 exact Gm (n := 0) o1 (h1.up u1) hs hk (fun w M' hu hN => hQ _ _ ⟨u1.trans hu, Nw.base hN u1.n⟩) rs.length 0 _ M1 rfl (Ch.refl _ _) NV.nil
end
end Go.G

namespace Go.G
open Go.Ab Go.Proofs Go.RowKit
set_option linter.unusedVariables false
set_option linter.unusedSimpArgs false
set_option maxRecDepth 100000
theorem Nw.put1K {e : TypeId} {Mb M : Store} {v : Value} {n : Nat} {cs : List Value} (h : Nw 1 e Mb M v n cs) {i : Nat} (hi : i < n) (k : IntKind) {w : Value} (h1 : w.cells = #[w]) (h2 : w.oneCell' = true) :
    ∃ p M', ixA 1 v (.int k (i : Int)) = some p ∧ st 1 p w M = some M' ∧ Nw 1 e Mb M' v n (cs.set i w) ∧ Keep e M M' ∧ ∃ b, Mb.n ≤ b ∧ b < M.n ∧ Ch [b] M M' := by
 obtain ⟨p, M', b, e1, _, e3, e4, e5, e6, e7, e8⟩ := h.put1 hi k h1 h2
 refine ⟨p, M', e1, e3, e4, ?_, b, e6, e7, e8⟩
 obtain ⟨_, ⟨h9, _⟩ | ⟨b5, cells, c, rfl, _, h10, _⟩⟩ := h
 ·omega
 ·simp only [bx, Option.some.injEq] at e5
  subst e5
  exact e8.keepT h10
def dnB (n j : Nat) : List Bool := (List.range n).map fun i => decide (i < j)
theorem s6 (n j : Nat) : (dnB n j).length = n := by simp [dnB]
theorem oI {n j i : Nat} (h : i < (dnB n j).length) : (dnB n j)[i] = decide (i < j) := by simp [dnB]
theorem Ht {n j : Nat} (h : j < n) : (dnB n j).set j true = dnB n (j + 1) := by
 apply List.ext_getElem
 ·simp [dnB]
 ·intro i h1 h2
  rw [List.getElem_set]
  split
  ·rename_i e; subst e
   rw [oI]; simp
  ·rename_i e
   rw [oI, oI]
   congr 1
   exact propext ⟨fun h => by omega, fun h => by omega⟩
theorem Gc (n : Nat) : dnB n 0 = List.replicate n false := by
 apply List.ext_getElem
 ·simp [dnB]
 ·intro i h1 h2; rw [oI]; simp
section
variable {M0 : Store} {b n : Nat} {vR vD : Value} {rs : List RuT} {ds : List (List UInt8)} {Q : Value → Store → Prop}
theorem H4 {x4 x5 x9 : Value} {x6 : Int} {i j : Nat} {M : Store} (h4 : LV tv Ty.j M x4 (dnB rs.length j)) (hns : ∀ y ∈ ndN rs i, y < rs.length) (h9 : LV iv Ty.b M x9 (aj (ndN rs i))) (hl : (ndN rs i).length ≤ 2 ^ 40) :
    ∀ (d k : Nat) (c : Bool), d + k = (ndN rs i).length → ie (pt b) x4 x5 (iv x6) (iv (i : Int)) (tv (c && ((ndN rs i).drop k).all fun y => decide (y < j))) M Q → dc (pt b) x4 x5 (iv x6) (iv (i : Int)) (tv c) x9 (iv (k : Int)) M Q := by
 intro d
 induction d with
 | zero =>
  intro k c hk hQ
  apply rW
  unfold lT
  rw [h9.len, ab, av, ag, ae, if_neg (by omega)]
  rw [List.drop_of_length_le (by omega)] at hQ
  simpa using hQ
 | succ d ih =>
  intro k c hk hQ
  have hkl : k < (ndN rs i).length := by omega
  rw [List.drop_eq_getElem_cons hkl, List.all_cons] at hQ
  apply rW
  unfold lT
  rw [h9.len, ab, av, ag, ae, if_pos hkl]
  cases c with
  | false =>
   rw [aI, ah _ (by omega)]
   exact ih (k + 1) false (by omega) (by simpa using hQ)
  | true =>
   obtain ⟨p, e1, e2⟩ := h9.at (i := k) (by rw [av]; exact hkl) .i64
   have hy := hns _ (List.getElem_mem hkl)
   have e3 : (aj (ndN rs i))[k]'(by rw [av]; exact hkl) = (((ndN rs i)[k] : Nat) : Int) := by simp [aj]
   rw [e3] at e2
   obtain ⟨p', g1, g2⟩ := h4.at (i := (ndN rs i)[k]) (by rw [s6]; exact hy) .i64
   rw [oI] at g2
   rw [bC, e1, ab, e2, ab, g1, ab, g2, ab, ah _ (by omega)]
   exact ih (k + 1) _ (by omega) (by simpa using hQ)
theorem H3 (o : Mz M0 b vR vD) (hR : RL M0 vR rs) (hD : LV sv Ty.a M0 vD ds) (hs : ef rs) (hb : ∀ k, k < rs.length → ∀ i ∈ ndN rs k, i < k) {j : Nat} (hj : j < rs.length) {x4 x5 : Value}
    (hk : ∀ M, Up M0 M → NV tv Ty.j M0 M x4 (dnB rs.length j) → NV iv Ty.b M0 M x5 (aj (List.range j)) → ic (pt b) x4 x5 (iv (j : Int)) M Q) :
    ∀ (i : Nat) (x6 : Int) (M : Store), i ≤ rs.length → (i ≤ j → x6 = (j : Int)) → Up M0 M → NV tv Ty.j M0 M x4 (dnB rs.length j) → NV iv Ty.b M0 M x5 (aj (List.range j)) → d3 (pt b) x4 x5 (iv x6) (iv ((i : Int) - 1)) M Q := by
 intro i
 induction i with
 | zero =>
  intro x6 M hi h6 hu h4 h5
  obtain rfl := h6 (Nat.zero_le _)
  apply rV
  unfold lS
  show OP (ad .geq (.int .i64 (-1)) (.int .i64 0)) _
  rw [ta, ae, if_neg (by decide)]
  exact hk M hu h4 h5
 | succ i ih =>
  intro x6 M hi h6 hu h4 h5
  have hil : i < rs.length := by omega
  have hsl := hs.1
  rw [show ((i + 1 : Nat) : Int) - 1 = (i : Int) by omega]
  apply rV
  unfold lS
  rw [wD 0 0 rfl, ae, if_pos (Nat.zero_le _)]
  apply zU
  unfold rk
  obtain ⟨p, e1, e2⟩ := h4.lv.at (i := i) (by rw [s6]; exact hil) .i64
  rw [oI] at e2
  rw [e1, ab, e2, ab, aM, (o.up hu).ldA (s := 2) rfl, ab]
  refine (zd (ds := ds) ⟨vR, vD, rfl, hR.up hu, hD.up hu⟩ hs hil).mono fun w M1 ⟨u1, hw⟩ => ?_
  have h41 := Nw.up h4 u1
  have h51 := Nw.up h5 u1
  have hnl : (ndN rs i).length ≤ rs.length := by
   have := List.length_filter_le (fun i' => jy (rs.getD i' ru0) (rs.getD i ru0)) (List.range rs.length)
   rwa [List.length_range] at this
  refine H4 (NV.lv h41) (fun y hy => Fb hy) hw.lv (by omega) (ndN rs i).length 0 _ rfl ?_
  rw [List.drop_zero]
  have nxt : ∀ x6' : Int, (i ≤ j → x6' = (j : Int)) → fx (pt b) x4 x5 (iv x6') (iv (i : Int)) M1 Q := fun x6' h6' => by
   apply zX
   unfold rn
   show OP (ad .sub (.int .i64 (i : Int)) (.int .i64 1)) _
   rw [pA, w64 (by omega) (by omega)]
   exact ih x6' M1 (by omega) h6' (hu.trans u1) h41 h51
  apply zW
  unfold rm
  rw [au]
  split
  ·rename_i hf
   refine nxt i fun hij => ?_
   rw [Bool.and_eq_true] at hf
   have := hf.1
   simp at this
   omega
  ·rename_i hf
   refine nxt x6 fun hij => ?_
   by_cases h : i + 1 ≤ j
   ·exact h6 h
   ·exfalso
    have : i = j := by omega
    subst this
    apply hf
    rw [Bool.and_eq_true]
    refine ⟨by simp, List.all_eq_true.2 fun y hy => decide_eq_true (hb i hil y hy)⟩
theorem H2 (o : Mz M0 b vR vD) (hR : RL M0 vR rs) (hD : LV sv Ty.a M0 vD ds) (hs : ef rs) (hb : ∀ k, k < rs.length → ∀ i ∈ ndN rs k, i < k) {x4 : Value}
    (hQ : ∀ w M, Up M0 M → NV iv Ty.b M0 M w (aj (List.range rs.length)) → Q (.tuple #[w, tv true]) M) :
    ∀ (d j : Nat) (x5 : Value) (M : Store), d + j = rs.length → Up M0 M → NV tv Ty.j M0 M x4 (dnB rs.length j) → NV iv Ty.b M0 M x5 (aj (List.range j)) → d2 (pt b) x4 x5 M Q := by
 have hsl := hs.1
 intro d
 induction d with
 | zero =>
  intro j x5 M hj hu h4 h5
  apply rU
  unfold lR
  rw [h5.lv.len, ab, bw (o.up hu), (hR.up hu).len, ab, av, List.length_range, ag, ae, if_neg (by omega)]
  apply zT
  unfold rj
  have : j = rs.length := by omega
  subst this
  refine ⟨?_, hQ _ _ hu h5⟩
  obtain ⟨a, c, rfl⟩ := h5.lv.slice
  rfl
 | succ d ih =>
  intro j x5 M hj hu h4 h5
  have hjl : j < rs.length := by omega
  apply rU
  unfold lR
  rw [h5.lv.len, ab, bw (o.up hu), (hR.up hu).len, ab, av, List.length_range, ag, ae, if_pos hjl]
  apply zS
  unfold ri
  rw [bw (o.up hu), (hR.up hu).len, ab]
  show OP (ad .sub (.int .i64 (rs.length : Int)) (.int .i64 1)) _
  rw [pA, w64 (by omega) (by omega)]
  refine H3 o hR hD hs hb hjl (fun M1 hu1 h41 h51 => ?_) rs.length (-1) M (Nat.le_refl _) (fun h => by omega) hu h4 h5
  apply zV
  unfold rl
  rw [eD 0 0 rfl, ae, if_neg (by omega)]
  have h41' : Nw 1 Ty.j M0 M1 x4 rs.length ((dnB rs.length j).map tv) := by
   have := h41
   unfold NV at this
   rwa [s6] at this
  obtain ⟨p, M2, e1, e2, h42, kk, bb, hb1, hb2, c2⟩ := Nw.put1K h41' hjl .i64 (mf true) (DN true)
  rw [show ixA 1 x4 (iv (j : Int)) = some p from e1, ab]
  rw [e2, ab, kD, aY]
  have hu2 : Up M0 M2 := hu1.ch c2 (by simpa using hb1)
  have h52 : NV iv Ty.b M0 M2 x5 (aj (List.range j)) := Nw.keep h51 (by decide) kk
  refine NV.app1 (M0 := M0) (Mb := M0) hu2 (Nat.le_refl _) hu2.n h52 (j : Int) rfl (by rw [av, List.length_range]; omega) fun w M3 hu3 hN3 c3 _ => ?_
  refine ih (j + 1) w M3 (by omega) hu3 ?_ (by rw [List.range_succ, fG]; exact hN3)
  have k3 : Keep Ty.b M2 M3 := Nw.keepE h52 c3
  have h43 := Nw.keep h42 (by decide) k3
  show Nw 1 Ty.j M0 M3 x4 (dnB rs.length (j + 1)).length ((dnB rs.length (j + 1)).map tv)
  rw [s6, ← Ht hjl, List.map_set]
  exact h43
theorem Eh {M : Store} {v : Value} (h : MV M v rs ds) (hs : ef rs) (hb : ∀ k, k < rs.length → ∀ i ∈ ndN rs k, i < k) : R F.U #[v] M fun r M' => Up M M' ∧ ∃ w, r = .tuple #[w, tv true] ∧ NV iv Ty.b M M' w (aj (List.range rs.length)) := by
 refine R.cps fun Q hQ => ?_
 obtain ⟨vR, vD, rfl, h1, h2⟩ := h
 have hsl := hs.1
 apply CP
 unfold vk
 rw [da h1 h2, ab]
 refine aq fun M1 u1 o1 n1 => ?_
 have o1 : Mz M1 M.n vR vD := o1
 rw [bw o1, (h1.up u1).len, ab]
 refine AL (x0 := false) (En := tv) (mf false) rfl (by omega) (by decide) fun w M2 u2 h4 _ => ?_
 rw [← Gc] at h4
 exact H2 (M0 := M1) o1 (h1.up u1) (h2.up u1) hs hb (fun w M' hu hN => hQ _ _ ⟨u1.trans hu, w, rfl, Nw.base hN u1.n⟩) rs.length 0 _ M2 rfl u2 h4 NV.nil
end
end Go.G
