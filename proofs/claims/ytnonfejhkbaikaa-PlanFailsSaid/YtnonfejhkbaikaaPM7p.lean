/- Layer 7, the document: the text of rules is parsed to them. -/
import Derived.Test.YtnonfejhkbaikaaPUN
import Derived.Test.YtnonfejhkbaikaaPUO
namespace Go.G
open Go.Ab Go.Proofs Go.RowKit
set_option linter.unusedVariables false
set_option linter.unusedSimpArgs false
set_option maxRecDepth 100000
def wwd (w : Wd) : Ww := (w.1, (w.2.1 : Int), (w.2.2.1 : Int), w.2.2.2)
theorem JK {M : Store} {v : Value} {ws : List Wd} (h : WS M v ws) : WW M v (ws.map wwd) := by
 have e : (ws.map wwd).flatMap wws = ws.flatMap wcs := by
  rw [List.flatMap_map]; rfl
 unfold WW LK
 rw [e, List.length_map]
 exact h
theorem I9 (ws : List Wd) : (ws.map wwd).map twv = ws.map tww := by simp [twv, wwd, tww, Function.comp_def]
theorem yb : ∀ l : List Nat, (∀ j ∈ l, j < 8) → (bz l).length ≤ l.length * 8
 | [], _ => by simp [bz]
 | a :: r, hl => by
  have h1 := (sc (hl a (by simp))).2.1
  have h2 := yb r fun j hj => hl j (by simp [hj])
  unfold bz
  rw [List.length_append, List.length_cons]
  split
  ·simp only [List.length_nil]; omega
  ·rw [List.length_cons]; omega
theorem GF {seen : List (List UInt8)} {r : RuT} (h : kZ seen r) : (a7 r).length ≤ 100 := by
 have h1 := h.most
 have h2 := h.insl
 have h3 := h.ordl
 have h4 := yb r.acts h.actl
 unfold a7
 cases hp : r.ph with
 | true =>
  rw [hp] at h1
  simp at h1 ⊢; omega
 | false =>
  have h5 := h.acts hp
  rw [hp] at h1
  simp at h1 ⊢
  split
  ·simp; omega
  ·simp; omega
theorem Ob.ldP {M : Store} {b : Nat} {cells : List Value} {T : TypeId} (h : Ob M b cells T) {o s : Nat} (hs : o + s ≤ cells.length) : Go.Ab.ld s true (.pointer (some ⟨b, o, none⟩)) M = some (.agg ((cells.drop o).take s).toArray) := by
 simp only [Go.Ab.ld]
 rw [jS h (by omega)]; rfl
theorem Jn (K : Value → Prop) : OP (bB #[(.slice none 0 0), (.slice none 0 0), (.slice none 0 0), (.slice none 0 0), (.int .i64 0), (.int .i64 0), (.int .i64 0)] [(0, 2), (2, 1), (3, 1), (4, 3)] []) K = K (.agg [.slice none 0 0, .slice none 0 0, .slice none 0 0, .slice none 0 0, iv 0, iv 0, iv 0].toArray) := by kernel_rfl
theorem Jp : aX (.agg [.slice none 0 0, .slice none 0 0, .slice none 0 0, .slice none 0 0, iv 0, iv 0, iv 0].toArray) = some [.slice none 0 0, .slice none 0 0, .slice none 0 0, .slice none 0 0, iv 0, iv 0, iv 0] := by kernel_rfl
theorem OkRs.short {rs : List RuT} {seen : List (List UInt8)} (h : OkRs seen rs) (hl : rs.length ≤ 2 ^ 20) : ef rs :=
 ⟨hl, fun r hr => by
  obtain ⟨s, hs⟩ := h.all r hr
  have h1 := hs.most
  have h2 := hs.insl
  have h3 := hs.ordl
  refine ⟨?_, by omega, by omega⟩
  split at h1 <;> omega⟩
abbrev RWx (M : Store) (w : Value) (rows : List (List Wd)) : Prop := Ls WS Ty.e M w rows
theorem RWx.up {M M' : Store} {w : Value} {rows : List (List Wd)} (h : RWx M w rows) (k : Up M M') : RWx M' w rows := Ls.up (E := WS) WS.up' h k
section
variable {M0 Mb : Store} {b b2 b3 : Nat} {x4 : Value} {rs : List RuT} {rows : List (List Wd)} {Q : Value → Store → Prop}
theorem HU {M : Store} (hu : Up M0 M) (h2 : M0.n ≤ b2) (h3 : M0.n ≤ b3) (hne : b2 ≠ b3) (hP : PS M0 M b rs) (hnb : b ≠ b2 ∧ b ≠ b3) (o2 : Mz M b2 (.slice none 0 0) (.slice none 0 0)) (o3 : Ob M b3 (fcs fv0) Ty.h)
    (hQ : ∀ v M', Up M0 M' → MV M' v rs [] → Q (.tuple #[v, fv fv0]) M') : dZ (pt b2) (pt b3) (pt b) M Q := by
 obtain ⟨vR, cs, o, hN, hE⟩ := hP
 have hR : RL M vR rs := ⟨cs, hN.lv, hE⟩
 obtain ⟨a, n, c, rfl⟩ := hR.slice
 apply zR
 unfold rh
 rw [nX o]
 show OP (ad .neq (iv ((0 : Nat) : Int)) (.int .i64 0)) _
 rw [pJ 0 0 rfl, ae, if_neg (by simp), mi, aS, Ob.ldP o (o := 0) (s := 2) (by simp), ab, GU]
 refine bp (vs := mcs (.slice a n c) (.slice none 0 0)) o2 rfl rfl (by kernel_rfl) fun M1 c1 o21 _ => ?_
 refine bp (vs := fcs fv0) (o3.fr c1 (by simpa using Ne.symm hne)) rfl rfl (kU _) fun M2 c2 o32 _ => ?_
 have o22 := o21.fr c2 (by simpa using hne)
 rw [o22.ldA (s := 2) rfl, ab, o32.ldA (s := 3) rfl, ab]
 have k1 := c1.keepT o2
 have k2 := c2.keepT (o3.fr c1 (by simpa using Ne.symm hne))
 exact ⟨rfl, hQ _ _ ((hu.ch c1 (by simpa using h2)).ch c2 (by simpa using h3)) ⟨_, _, rfl, (hR.keep (by decide) (by decide) (by decide) (by decide) k1).keep (by decide) (by decide) (by decide) (by decide) k2, Sl.nil _ _ _⟩⟩
theorem HT {M : Store} (hu : Up M0 M) (h2 : M0.n ≤ b2) (h3 : M0.n ≤ b3) (hne : b2 ≠ b3) (hP : PS M0 M b rs) (hnb : b ≠ b2 ∧ b ≠ b3) (o2 : Mz M b2 (.slice none 0 0) (.slice none 0 0)) (o3 : Ob M b3 (fcs fv0) Ty.h) (hs : ef rs) (hb : ∀ k, k < rs.length → ∀ i ∈ ndN rs k, i < k)
    (hQ : ∀ v M', Up M0 M' → MV M' v rs [] → Q (.tuple #[v, fv fv0]) M') : fw (pt b2) (pt b3) (pt b) M Q := by
 have hP' := hP
 obtain ⟨vR, cs, o, hN, hE⟩ := hP'
 have hR : RL M vR rs := ⟨cs, hN.lv, hE⟩
 apply zO
 unfold rb
 apply zP
 unfold re
 rw [mi, aS, show Go.Ab.ld 1 false (.pointer (some ⟨b, 3, none⟩)) M = some (.slice none 0 0) from Ob.ld (o := 3) o rfl, ab, sD]
 show OP (ad .lss (iv ((0 : Nat) : Int)) (iv ((0 : Nat) : Int))) _
 rw [ag, ae, if_neg (by decide)]
 apply zQ
 unfold rg
 rw [mi, aS, Ob.ldP o (o := 0) (s := 2) (by simp), ab]
 refine (Eh (ds := []) ⟨vR, .slice none 0 0, rfl, hR, Sl.nil _ _ _⟩ hs hb).mono fun r M1 ⟨u1, w, e, _⟩ => ?_
 subst e
 rw [(tp2 _ _).1, (tp2 _ _).2, aM, Bool.not_true, aI]
 exact HU (hu.trans u1) h2 h3 hne (hP.up u1) hnb (o2.up u1) (o3.up u1) hQ
theorem HS (h2 : M0.n ≤ b2) (h3 : M0.n ≤ b3) (hne : b2 ≠ b3) (h0b : M0.n ≤ Mb.n) (hnb : b = Mb.n ∧ b2 < Mb.n ∧ b3 < Mb.n) (hok : OkRs [] rs) (hl : rs.length ≤ 64) (hb : ∀ k, k < rs.length → ∀ i ∈ ndN rs k, i < k) (hrows : rows.map (List.map tww) = rs.map a7)
    (h4 : RWx Mb x4 rows) (o2 : Mz Mb b2 (.slice none 0 0) (.slice none 0 0)) (o3 : Ob Mb b3 (fcs fv0) Ty.h) (hub : Up M0 Mb) (hQ : ∀ v M', Up M0 M' → MV M' v rs [] → Q (.tuple #[v, fv fv0]) M') :
    ∀ (d i : Nat) (M : Store), d + i = rs.length → Up Mb M → PS Mb M b (rs.take i) → dY (pt b2) (pt b3) x4 (pt b) (iv (i : Int)) M Q := by
 have hrl : rows.length = rs.length := by have := congrArg List.length hrows; simpa using this
 obtain ⟨hbn, hn2, hn3⟩ := hnb
 intro d
 induction d with
 | zero =>
  intro i M hi hu hP
  apply rT
  unfold lQ
  rw [Ls.lenV (h4.up hu), ab]
  show OP (ad .lss (iv (i : Int)) (iv (rows.length : Int))) _
  rw [ag, ae, if_neg (by omega)]
  rw [List.take_of_length_le (by omega)] at hP
  obtain ⟨vR, cs, o, hN, hE⟩ := hP
  exact HT (hub.trans hu) h2 h3 hne ⟨vR, cs, o, Nw.base hN h0b, hE⟩ ⟨by omega, by omega⟩ (o2.up hu) (o3.up hu) (hok.short (by omega)) hb hQ
 | succ d ih =>
  intro i M hi hu hP
  have hil : i < rs.length := by omega
  have hir : i < rows.length := by omega
  have hP' := hP
  obtain ⟨vR, cs, o, hN, hE⟩ := hP'
  apply rT
  unfold lQ
  rw [Ls.lenV (h4.up hu), ab]
  show OP (ad .lss (iv (i : Int)) (iv (rows.length : Int))) _
  rw [ag, ae, if_pos hir, nX o, Gd, bC]
  obtain ⟨p, w, e1, e2, e3⟩ := Ls.at (h4.up hu) hir .i64
  rw [e1, ab, e2, ab]
  have hrow : rows[i].map tww = a7 rs[i] := by
   have h1 : (rows.map (List.map tww))[i]? = (rs.map a7)[i]? := by rw [hrows]
   rw [List.getElem?_map, List.getElem?_map, List.getElem?_eq_getElem hir, List.getElem?_eq_getElem hil] at h1
   exact Option.some.inj h1
  have hoki := hok.at hil
  rw [List.nil_append] at hoki
  have hlen : rows[i].length ≤ 100 := by
   have h1 := GF hoki
   rw [← hrow, List.length_map] at h1; exact h1
  have htl : (rs.take i).length ≤ i := List.length_take_le _ _
  refine HA (M0 := Mb) (ws := rows[i].map wwd) (seen := (rs.take i).flatMap (·.outs)) hP hu (by omega) (JK e3) (by rw [List.length_map]; omega) (by omega) hoki (fun r' hr' q hq => List.mem_flatMap.2 ⟨r', hr', hq⟩) (fun r' hr' => by
   have := ((hok.short (by omega)).2 r' (List.mem_of_mem_take hr')).1
   omega) (by rw [I9, hrow]) fun M1 hu1 hP1 => ?_
  rw [ah _ (by omega)]
  refine ih (i + 1) M1 (by omega) hu1 ?_
  rw [List.take_succ_eq_append_getElem hil]
  exact hP1
theorem Ee {M : Store} {v : Value} (h : B M v (bq (rs.map a7))) (hl : (bq (rs.map a7)).length ≤ 2 ^ 27) (hok : OkRs [] rs) (hrl : rs.length ≤ 64) (hb : ∀ k, k < rs.length → ∀ i ∈ ndN rs k, i < k) :
    R F.H #[v] M fun r M' => Up M M' ∧ ∃ w, r = .tuple #[w, fv fv0] ∧ MV M' w rs [] := by
 refine R.cps fun Q hQ => ?_
 apply CO
 unfold vj
 refine aq fun M1 u1 o1 n1 => ?_
 refine aq fun M2 u2 o2 n2 => ?_
 have u12 := u1.trans u2
 refine (Ef (Sl.up h u12) hl).mono fun r M3 ⟨u3, hr⟩ => ?_
 obtain ⟨rows, hsp, hrows⟩ := BX hok
 rw [hsp] at hr
 obtain ⟨w, rfl, hw⟩ := hr
 rw [(tp2 _ _).1, (tp2 _ _).2]
 refine aq fun M4 u4 o4 n4 => ?_
 refine bp (vs := fcs fv0) o4 rfl rfl (kU _) fun M5 c5 o5 hn5 => ?_
 have u34 : Up M3 M5 := u4.ch c5 (by simp)
 rw [aS, show Go.Ab.ld 1 false (.pointer (some ⟨M3.n, 0, none⟩)) M5 = some (iv 0) from Ob.ld (o := 0) o5 rfl, ab]
 show OP (ad .neq (iv ((0 : Nat) : Int)) (.int .i64 0)) _
 rw [pJ 0 0 rfl, ae, if_neg (by simp), Jn, Jp, ab]
 have hw5 : RWx M5 w rows := RWx.up (NLs.ls hw) u34
 have u15 : Up M1 M5 := (u2.trans u3).trans u34
 have u25 : Up M2 M5 := u3.trans u34
 have hm1 := o1.lt
 have hm2 := o2.lt
 have hm3 := u15.n
 have hm4 := u25.n
 refine aq fun M6 u6 o6 n6 => ?_
 have hMn := u1.n
 exact HS (M0 := M) (Mb := M5) (b2 := M.n) (b3 := M1.n) (Nat.le_refl _) hMn (by omega) (u12.trans u25).n ⟨rfl, by omega, by omega⟩ hok hrl hb hrows hw5 ((o1.up u2).up u25) (o2.up u25) (u12.trans u25)
  (fun v M' hu hv => hQ _ _ ⟨hu, v, rfl, hv⟩) rs.length 0 M6 rfl u6 ⟨_, [], o6, NK.nil, trivial⟩
end
end Go.G
