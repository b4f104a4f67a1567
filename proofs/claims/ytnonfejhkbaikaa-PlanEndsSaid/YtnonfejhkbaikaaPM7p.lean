/- Layer 7, the document: the text of rules is parsed to them. -/
import Derived.Test.YtnonfejhkbaikaaPUN
import Derived.Test.YtnonfejhkbaikaaPUO
namespace Go.G
open Go.Ab Go.Proofs Go.RowKit
set_option linter.unusedVariables false
set_option linter.unusedSimpArgs false
set_option maxRecDepth 100000
def wwd (w : Wd) : Ww := (w.1, (w.2.1 : Int), (w.2.2.1 : Int), w.2.2.2)
theorem J7 {M : Store} {v : Value} {ws : List Wd} (h : WS M v ws) : WW M v (ws.map wwd) := by
 have e : (ws.map wwd).flatMap wws = ws.flatMap wcs := by
  rw [List.flatMap_map]; rfl
 unfold WW LK
 rw [e, List.length_map]
 exact h
theorem Jz (ws : List Wd) : (ws.map wwd).map twv = ws.map tww := by simp [twv, wwd, tww, Function.comp_def]
theorem yz : ∀ l : List Nat, (∀ j ∈ l, j < 8) → (bA l).length ≤ l.length * 8
 | [], _ => by simp [bA]
 | a :: r, hl => by
  have h1 := (sJ (hl a (by simp))).2.1
  have h2 := yz r fun j hj => hl j (by simp [hj])
  unfold bA
  rw [List.length_append, List.length_cons]
  split
  ·simp only [List.length_nil]; omega
  ·rw [List.length_cons]; omega
theorem G6 {seen : List (List UInt8)} {r : RuT} (h : kL seen r) : (a8 r).length ≤ 100 := by
 have h1 := h.most
 have h2 := h.insl
 have h3 := h.ordl
 have h4 := yz r.acts h.actl
 unfold a8
 cases hp : r.ph with
 | true =>
  rw [hp] at h1
  simp at h1 ⊢; omega
 | false =>
  have h5 := h.acts hp
  rw [hp] at h1
  simp at h1 ⊢
  split
  ·simp; omega
  ·simp; omega
theorem Ob.ldP {M : Store} {b : Nat} {cells : List Value} {T : TypeId} (h : Ob M b cells T) {o s : Nat} (hs : o + s ≤ cells.length) : Go.Ab.ld s true (.pointer (some ⟨b, o, none⟩)) M = some (.agg ((cells.drop o).take s).toArray) := by
 simp only [Go.Ab.ld]
 rw [jI h (by omega)]; rfl
theorem JL (K : Value → Prop) : OP (bE #[(.slice none 0 0), (.slice none 0 0), (.slice none 0 0), (.slice none 0 0), (.int .i64 0), (.int .i64 0), (.int .i64 0)] [(0, 2), (2, 1), (3, 1), (4, 3)] []) K = K (.agg [.slice none 0 0, .slice none 0 0, .slice none 0 0, .slice none 0 0, iv 0, iv 0, iv 0].toArray) := by kernel_rfl
theorem JN : aT (.agg [.slice none 0 0, .slice none 0 0, .slice none 0 0, .slice none 0 0, iv 0, iv 0, iv 0].toArray) = some [.slice none 0 0, .slice none 0 0, .slice none 0 0, .slice none 0 0, iv 0, iv 0, iv 0] := by kernel_rfl
theorem OkRs.short {rs : List RuT} {seen : List (List UInt8)} (h : OkRs seen rs) (hl : rs.length ≤ 2 ^ 20) : d4 rs :=
 ⟨hl, fun r hr => by
  obtain ⟨s, hs⟩ := h.all r hr
  have h1 := hs.most
  have h2 := hs.insl
  have h3 := hs.ordl
  refine ⟨?_, by omega, by omega⟩
  split at h1 <;> omega⟩
abbrev RWx (M : Store) (w : Value) (rows : List (List Wd)) : Prop := Ls WS Ty.e M w rows
theorem RWx.up {M M' : Store} {w : Value} {rows : List (List Wd)} (h : RWx M w rows) (k : Up M M') : RWx M' w rows := Ls.up (E := WS) WS.up' h k
section
variable {M0 Mb : Store} {b b2 b3 : Nat} {x4 : Value} {rs : List RuT} {rows : List (List Wd)} {Q : Value → Store → Prop}
theorem Ij {M : Store} (hu : Up M0 M) (h2 : M0.n ≤ b2) (h3 : M0.n ≤ b3) (hne : b2 ≠ b3) (hP : PS M0 M b rs) (hnb : b ≠ b2 ∧ b ≠ b3) (o2 : Mz M b2 (.slice none 0 0) (.slice none 0 0)) (o3 : Ob M b3 (fcs fv0) Ty.i)
    (hQ : ∀ v M', Up M0 M' → MV M' v rs [] → Q (.tuple #[v, fv fv0]) M') : dS (pt b2) (pt b3) (pt b) M Q := by
 obtain ⟨vR, cs, o, hN, hE⟩ := hP
 have hR : RL M vR rs := ⟨cs, hN.lv, hE⟩
 obtain ⟨a, n, c, rfl⟩ := hR.slice
 apply Ai
 unfold rL
 rw [nS o]
 show OP (ad .neq (iv ((0 : Nat) : Int)) (.int .i64 0)) _
 rw [p5 0 0 rfl, ae, if_neg (by simp), md, aU, Ob.ldP o (o := 0) (s := 2) (by simp), ab, Hl]
 refine bq (vs := mcs (.slice a n c) (.slice none 0 0)) o2 rfl rfl (by kernel_rfl) fun M1 c1 o21 _ => ?_
 refine bq (vs := fcs fv0) (o3.fr c1 (by simpa using Ne.symm hne)) rfl rfl (kB _) fun M2 c2 o32 _ => ?_
 have o22 := o21.fr c2 (by simpa using hne)
 rw [o22.ldA (s := 2) rfl, ab, o32.ldA (s := 3) rfl, ab]
 have k1 := c1.keepT o2
 have k2 := c2.keepT (o3.fr c1 (by simpa using Ne.symm hne))
 exact ⟨rfl, hQ _ _ ((hu.ch c1 (by simpa using h2)).ch c2 (by simpa using h3)) ⟨_, _, rfl, (hR.keep (by decide) (by decide) (by decide) (by decide) k1).keep (by decide) (by decide) (by decide) (by decide) k2, Sl.nil _ _ _⟩⟩
theorem Ii {M : Store} (hu : Up M0 M) (h2 : M0.n ≤ b2) (h3 : M0.n ≤ b3) (hne : b2 ≠ b3) (hP : PS M0 M b rs) (hnb : b ≠ b2 ∧ b ≠ b3) (o2 : Mz M b2 (.slice none 0 0) (.slice none 0 0)) (o3 : Ob M b3 (fcs fv0) Ty.i) (hs : d4 rs) (hb : ∀ k, k < rs.length → ∀ i ∈ ndN rs k, i < k)
    (hQ : ∀ v M', Up M0 M' → MV M' v rs [] → Q (.tuple #[v, fv fv0]) M') : fp (pt b2) (pt b3) (pt b) M Q := by
 have hP' := hP
 obtain ⟨vR, cs, o, hN, hE⟩ := hP'
 have hR : RL M vR rs := ⟨cs, hN.lv, hE⟩
 apply Af
 unfold rI
 apply Ag
 unfold rJ
 rw [md, aU, show Go.Ab.ld 1 false (.pointer (some ⟨b, 3, none⟩)) M = some (.slice none 0 0) from Ob.ld (o := 3) o rfl, ab, s3]
 show OP (ad .lss (iv ((0 : Nat) : Int)) (iv ((0 : Nat) : Int))) _
 rw [ai, ae, if_neg (by decide)]
 apply Ah
 unfold rK
 rw [md, aU, Ob.ldP o (o := 0) (s := 2) (by simp), ab]
 refine (EO (ds := []) ⟨vR, .slice none 0 0, rfl, hR, Sl.nil _ _ _⟩ hs hb).mono fun r M1 ⟨u1, w, e, _⟩ => ?_
 subst e
 rw [(tp2 _ _).1, (tp2 _ _).2, aI, Bool.not_true, aE]
 exact Ij (hu.trans u1) h2 h3 hne (hP.up u1) hnb (o2.up u1) (o3.up u1) hQ
theorem Ih (h2 : M0.n ≤ b2) (h3 : M0.n ≤ b3) (hne : b2 ≠ b3) (h0b : M0.n ≤ Mb.n) (hnb : b = Mb.n ∧ b2 < Mb.n ∧ b3 < Mb.n) (hok : OkRs [] rs) (hl : rs.length ≤ 64) (hb : ∀ k, k < rs.length → ∀ i ∈ ndN rs k, i < k) (hrows : rows.map (List.map tww) = rs.map a8)
    (h4 : RWx Mb x4 rows) (o2 : Mz Mb b2 (.slice none 0 0) (.slice none 0 0)) (o3 : Ob Mb b3 (fcs fv0) Ty.i) (hub : Up M0 Mb) (hQ : ∀ v M', Up M0 M' → MV M' v rs [] → Q (.tuple #[v, fv fv0]) M') :
    ∀ (d i : Nat) (M : Store), d + i = rs.length → Up Mb M → PS Mb M b (rs.take i) → dR (pt b2) (pt b3) x4 (pt b) (iv (i : Int)) M Q := by
 have hrl : rows.length = rs.length := by have := congrArg List.length hrows; simpa using this
 obtain ⟨hbn, hn2, hn3⟩ := hnb
 intro d
 induction d with
 | zero =>
  intro i M hi hu hP
  apply sz
  unfold lG
  rw [Ls.lenV (h4.up hu), ab]
  show OP (ad .lss (iv (i : Int)) (iv (rows.length : Int))) _
  rw [ai, ae, if_neg (by omega)]
  rw [List.take_of_length_le (by omega)] at hP
  obtain ⟨vR, cs, o, hN, hE⟩ := hP
  exact Ii (hub.trans hu) h2 h3 hne ⟨vR, cs, o, Nw.base hN h0b, hE⟩ ⟨by omega, by omega⟩ (o2.up hu) (o3.up hu) (hok.short (by omega)) hb hQ
 | succ d ih =>
  intro i M hi hu hP
  have hil : i < rs.length := by omega
  have hir : i < rows.length := by omega
  have hP' := hP
  obtain ⟨vR, cs, o, hN, hE⟩ := hP'
  apply sz
  unfold lG
  rw [Ls.lenV (h4.up hu), ab]
  show OP (ad .lss (iv (i : Int)) (iv (rows.length : Int))) _
  rw [ai, ae, if_pos hir, nS o, GF, bG]
  obtain ⟨p, w, e1, e2, e3⟩ := Ls.at (h4.up hu) hir .i64
  rw [e1, ab, e2, ab]
  have hrow : rows[i].map tww = a8 rs[i] := by
   have h1 : (rows.map (List.map tww))[i]? = (rs.map a8)[i]? := by rw [hrows]
   rw [List.getElem?_map, List.getElem?_map, List.getElem?_eq_getElem hir, List.getElem?_eq_getElem hil] at h1
   exact Option.some.inj h1
  have hoki := hok.at hil
  rw [List.nil_append] at hoki
  have hlen : rows[i].length ≤ 100 := by
   have h1 := G6 hoki
   rw [← hrow, List.length_map] at h1; exact h1
  have htl : (rs.take i).length ≤ i := List.length_take_le _ _
  refine H0 (M0 := Mb) (ws := rows[i].map wwd) (seen := (rs.take i).flatMap (·.outs)) hP hu (by omega) (J7 e3) (by rw [List.length_map]; omega) (by omega) hoki (fun r' hr' q hq => List.mem_flatMap.2 ⟨r', hr', hq⟩) (fun r' hr' => by
   have := ((hok.short (by omega)).2 r' (List.mem_of_mem_take hr')).1
   omega) (by rw [Jz, hrow]) fun M1 hu1 hP1 => ?_
  rw [ag _ (by omega)]
  refine ih (i + 1) M1 (by omega) hu1 ?_
  rw [List.take_succ_eq_append_getElem hil]
  exact hP1
theorem EL {M : Store} {v : Value} (h : B M v (br (rs.map a8))) (hl : (br (rs.map a8)).length ≤ 2 ^ 27) (hok : OkRs [] rs) (hrl : rs.length ≤ 64) (hb : ∀ k, k < rs.length → ∀ i ∈ ndN rs k, i < k) :
    R F.H #[v] M fun r M' => Up M M' ∧ ∃ w, r = .tuple #[w, fv fv0] ∧ MV M' w rs [] := by
 refine R.cps fun Q hQ => ?_
 apply Dk
 unfold vN
 refine au fun M1 u1 o1 n1 => ?_
 refine au fun M2 u2 o2 n2 => ?_
 have u12 := u1.trans u2
 refine (EM (Sl.up h u12) hl).mono fun r M3 ⟨u3, hr⟩ => ?_
 obtain ⟨rows, hsp, hrows⟩ := Co hok
 rw [hsp] at hr
 obtain ⟨w, rfl, hw⟩ := hr
 rw [(tp2 _ _).1, (tp2 _ _).2]
 refine au fun M4 u4 o4 n4 => ?_
 refine bq (vs := fcs fv0) o4 rfl rfl (kB _) fun M5 c5 o5 hn5 => ?_
 have u34 : Up M3 M5 := u4.ch c5 (by simp)
 rw [aU, show Go.Ab.ld 1 false (.pointer (some ⟨M3.n, 0, none⟩)) M5 = some (iv 0) from Ob.ld (o := 0) o5 rfl, ab]
 show OP (ad .neq (iv ((0 : Nat) : Int)) (.int .i64 0)) _
 rw [p5 0 0 rfl, ae, if_neg (by simp), JL, JN, ab]
 have hw5 : RWx M5 w rows := RWx.up (NLs.ls hw) u34
 have u15 : Up M1 M5 := (u2.trans u3).trans u34
 have u25 : Up M2 M5 := u3.trans u34
 have hm1 := o1.lt
 have hm2 := o2.lt
 have hm3 := u15.n
 have hm4 := u25.n
 refine au fun M6 u6 o6 n6 => ?_
 have hMn := u1.n
 exact Ih (M0 := M) (Mb := M5) (b2 := M.n) (b3 := M1.n) (Nat.le_refl _) hMn (by omega) (u12.trans u25).n ⟨rfl, by omega, by omega⟩ hok hrl hb hrows hw5 ((o1.up u2).up u25) (o2.up u25) (u12.trans u25)
  (fun v M' hu hv => hQ _ _ ⟨hu, v, rfl, hv⟩) rs.length 0 M6 rfl u6 ⟨_, [], o6, NK.nil, trivial⟩
end
end Go.G
