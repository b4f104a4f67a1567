/- Layer 6: one thing of its words, by the document. -/
import Derived.Test.YtnonfejhkbaikaaPR8d
import Derived.Test.YtnonfejhkbaikaaPR9n
namespace Go.G
open Go.Ab Go.Proofs Go.RowKit
set_option linter.unusedVariables false
set_option linter.unusedSimpArgs false
set_option maxRecDepth 100000
def tx (k : Nat) : Bool := decide (k = 2) || (decide (k = 7) || decide (k = 8))
def Bu (k : Nat) : List Ww → Option Dw
 | [x] => if x.2.2.2 then some ((k : Int), 0, x.1) else none
 | _ => none
def Bf (k : Nat) : List Ww → Option Dw
 | [x] => if x.2.2.2 then none else (match tg 9 x.1 with
  | some n => some ((k : Int), (n : Int), [])
  | none => none)
 | _ => none
def fi (k : Nat) (r : List Ww) : Option Dw :=
 if cV (k : Int) then Bu k r else if tx k then Bf k r else if r = [] then some ((k : Int), 0, []) else none
def pV (t : List UInt8) : Nat → List (List UInt8) → Option Nat
 | _, [] => none
 | i, x :: r => if x = t then some i else pV t (i + 1) r
def mj : List Ww → Option Dw
 | [] => none
 | w :: r => if w.2.2.2 then none else match pV w.1 1 (fD.drop 1) with
  | none => none
  | some k => fi k r
theorem F2 {M : Store} {Q : Value → Store → Prop} (hQ : ∀ v M', Up M M' → LV sv Ty.a M' v fD → Q v M') : R F.a1 #[] M Q := by
 apply Dx
 unfold v6
 rw [show an (.string ⟨#[]⟩) 1 12 [(0, (.string ⟨#[]⟩)), (1, (.string ⟨#[116, 101, 120, 116]⟩)), (2, (.string ⟨#[105, 110]⟩)), (3, (.string ⟨#[97, 108, 108]⟩)), (4, (.string ⟨#[117, 112, 112, 101, 114]⟩)), (5, (.string ⟨#[108, 111, 119, 101, 114]⟩)), (6, (.string ⟨#[114, 101, 118]⟩)), (7, (.string ⟨#[116, 97, 107, 101]⟩)), (8, (.string ⟨#[100, 114, 111, 112]⟩)), (9, (.string ⟨#[116, 119, 105, 99, 101]⟩)), (10, (.string ⟨#[106, 111, 105, 110]⟩)), (11, (.string ⟨#[102, 97, 105, 108]⟩))] = some (fD.map sv) from by kernel_rfl, ab]
 refine qf (s := 1) (n := 12) rfl fun M1 u1 h1 o1 n1 => ?_
 exact ⟨rfl, hQ _ _ u1 h1.sl⟩
section
variable {M0 : Store} {v : Value} {w : Ww} {r : List Ww} {b : Nat} {Q : Value → Store → Prop}
theorem Io (h : WW M0 v (w :: r)) (hw : ∀ x ∈ w :: r, x.1.length ≤ 2 ^ 40) (hb : M0.n ≤ b) {k : Nat} (hk : k ≤ 11) (hQ : ∀ q M, Up M0 M → Dd q (fi k r) → Q q M) {M : Store} (hu : Up M0 M) (oA : Ob M b [iv 0, iv 0, sv []] Ty.f) : ke v (pt b) (iv (k : Int)) M Q := by
 have hbM : b < M.n := oA.lt
 have bad : ∀ (M' : Store), Up M0 M' → Ob M' b [iv 0, iv 0, sv []] Ty.f → fi k r = none →
     OP (bE #[(.int .i64 0), (.int .i64 0), (.string ⟨#[]⟩)] [(0, 1), (1, 1), (2, 1)] []) fun t14 => OP (st 3 (.pointer (some ⟨b, 0, none⟩)) t14 M') fun M2 => OP (ld 3 true (.pointer (some ⟨b, 0, none⟩)) M2) fun r2 => NTs [r2, (.bool false)] ∧ Q (.tuple #[r2, (.bool false)]) M2 := by
  intro M' hu o he
  rw [AU, ab]
  refine bq (vs := [iv 0, iv 0, sv []]) o rfl rfl rfl fun M2 c2 o2 n2 => ?_
  rw [o2.ldA (s := 3) rfl, ab]
  exact ⟨rfl, hQ _ _ (hu.ch c2 (by simpa using hb)) (by rw [he]; exact ⟨(0, 0, []), rfl⟩)⟩
 have fin : ∀ (M' : Store) (d : Dw) (b' : Nat) (ok : Bool), Up M0 M' → Ob M' b [iv 0, iv 0, sv []] Ty.f → Ob M' b' (dcs d) Ty.f → Dd (.tuple #[dv d, .bool ok]) (fi k r) →
     OP (ld 3 true (.pointer (some ⟨b', 0, none⟩)) M') fun t69 => OP (st 3 (.pointer (some ⟨b, 0, none⟩)) t69 M') fun M12 => OP (ld 3 true (.pointer (some ⟨b, 0, none⟩)) M12) fun r2 => NTs [r2, (.bool ok)] ∧ Q (.tuple #[r2, (.bool ok)]) M12 := by
  intro M' d b' ok hu o o' he
  rw [o'.ldA (s := 3) rfl, ab]
  refine bq (vs := dcs d) o rfl rfl (tE d) fun M2 c2 o2 n2 => ?_
  rw [o2.ldA (s := 3) rfl, ab]
  exact ⟨I4 d ok, hQ _ _ (hu.ch c2 (by simpa using hb)) he⟩
 apply Dr
 unfold vW
 rw [JI, ab]
 refine au fun M1 u1 oB n1 => ?_
 refine bq (vs := [iv (k : Int), iv 0, sv []]) oB rfl rfl rfl fun M2 c2 o2 n2 => ?_
 have hu2 : Up M0 M2 := hu.trans (u1.ch c2 (by simp))
 have oA2 : Ob M2 b [iv 0, iv 0, sv []] Ty.f := oA.up (u1.ch c2 (by simp))
 have hne : b ≠ M.n := by omega
 have hv : WW M2 v (w :: r) := Sl.up h hu2
 have main : ∀ (bb : Bool), bb = cV (k : Int) → ia v (pt b) (pt M.n) (iv (k : Int)) (.bool bb) M2 Q := by
  intro bb hbb
  apply Ds
  unfold vX
  simp only [aU]
  rw [aw]
  split
  ·rename_i ht
   have hr : fi k r = Bu k r := by unfold fi; rw [if_pos (by rw [← hbb]; exact ht)]
   rw [hv.len, ab]
   show OP (ad .neq (iv ((w :: r).length : Int)) _) _
   rw [p5 2 2 rfl, ae]
   split
   ·rename_i h2
    refine bad M2 hu2 oA2 ?_
    rw [hr]
    match r, h2 with
    | [], _ => rfl
    | [x], h2 => exact absurd rfl h2
    | _ :: _ :: _, _ => rfl
   ·rename_i h2
    obtain ⟨x, rfl⟩ : ∃ x, r = [x] := by
     match r, h2 with
     | [], h2 => exact absurd (by simp) h2
     | [x], _ => exact ⟨x, rfl⟩
     | _ :: _ :: _, h2 => exact absurd (by simp) h2
    show OP (ixA 4 v (iv ((1 : Nat) : Int))) _
    rw [iM hv (by simp) (f := 3) (w := tv x.2.2.2) rfl, aI, aw]
    split
    ·rename_i hx
     exact bad M2 hu2 oA2 (by rw [hr]; simp only [Bu]; rw [if_neg (by simpa using hx)])
    ·rename_i hx
     show OP (ixA 4 v (iv ((1 : Nat) : Int))) _
     rw [iM hv (by simp) (f := 0) (w := sv x.1) rfl]
     refine cU (i := 2) o2 (by simp) rfl rfl fun M3 c3 o3 n3 => ?_
     apply Dt
     unfold vY
     exact fin M3 ((k : Int), 0, x.1) M.n true (hu2.ch c3 (by simpa using hu.n)) (oA2.fr c3 (by simpa using hne)) o3 (by rw [hr]; simp only [Bu]; rw [if_pos (by simpa using hx)]; rfl)
  ·rename_i ht
   have ht' : cV (k : Int) = false := by rw [← hbb]; simpa using ht
   have main7 : ∀ (cc : Bool), cc = tx k → fI v (pt b) (pt M.n) (.bool cc) M2 Q := by
    intro cc hcc
    apply Du
    unfold vZ
    simp only [aU]
    rw [aw]
    split
    ·rename_i hc
     have hr : fi k r = Bf k r := by unfold fi; rw [if_neg (by rw [ht']; decide), if_pos (by rw [← hcc]; exact hc)]
     rw [hv.len, ab]
     show OP (ad .neq (iv ((w :: r).length : Int)) _) _
     rw [p5 2 2 rfl, ae]
     split
     ·rename_i h2
      refine bad M2 hu2 oA2 ?_
      rw [hr]
      match r, h2 with
      | [], _ => rfl
      | [x], h2 => exact absurd rfl h2
      | _ :: _ :: _, _ => rfl
     ·rename_i h2
      obtain ⟨x, rfl⟩ : ∃ x, r = [x] := by
       match r, h2 with
       | [], h2 => exact absurd (by simp) h2
       | [x], _ => exact ⟨x, rfl⟩
       | _ :: _ :: _, h2 => exact absurd (by simp) h2
      show OP (ixA 4 v (iv ((1 : Nat) : Int))) _
      rw [iM hv (by simp) (f := 3) (w := tv x.2.2.2) rfl]
      show BR (.bool x.2.2.2) _ _
      rw [aw]
      split
      ·rename_i hx
       exact bad M2 hu2 oA2 (by rw [hr]; simp only [Bf]; rw [if_pos hx])
      ·rename_i hx
       show OP (ixA 4 v (iv ((1 : Nat) : Int))) _
       rw [iM hv (by simp) (f := 0) (w := sv x.1) rfl]
       show R F.w #[sv x.1, iv ((9 : Nat) : Int)] M2 _
       refine EK (hw x (by simp)) (by omega) ?_
       have hr2 : fi k [x] = (match tg 9 x.1 with
        | some n => some ((k : Int), (n : Int), [])
        | none => none) := by rw [hr]; simp only [Bf]; rw [if_neg hx]
       cases hn : tg 9 x.1 with
       | none =>
        rw [hn] at hr2
        unfold Ee
        simp only
        rw [(tp2 _ _).1, (tp2 _ _).2]
        refine cU (i := 1) o2 (by simp) rfl rfl fun M3 c3 o3 n3 => ?_
        exact fin M3 ((k : Int), 0, []) M.n false (hu2.ch c3 (by simpa using hu.n)) (oA2.fr c3 (by simpa using hne)) o3 (by rw [hr2]; exact ⟨_, rfl⟩)
       | some n =>
        rw [hn] at hr2
        unfold Ee
        simp only
        rw [(tp2 _ _).1, (tp2 _ _).2]
        refine cU (i := 1) o2 (by simp) rfl rfl fun M3 c3 o3 n3 => ?_
        exact fin M3 ((k : Int), (n : Int), []) M.n true (hu2.ch c3 (by simpa using hu.n)) (oA2.fr c3 (by simpa using hne)) o3 (by rw [hr2]; rfl)
    ·rename_i hc
     have hr : fi k r = if r = [] then some ((k : Int), 0, []) else none := by unfold fi; rw [if_neg (by rw [ht']; decide), if_neg (by rw [← hcc]; exact hc)]
     rw [o2.ldA (s := 3) rfl, ab, hv.len, ab]
     show OP (ad .eql (iv ((w :: r).length : Int)) _) _
     rw [bR 1 1 rfl]
     refine bq (vs := [iv (k : Int), iv 0, sv []]) oA2 rfl rfl rfl fun M3 c3 o3 n3 => ?_
     rw [o3.ldA (s := 3) rfl, ab]
     refine ⟨rfl, hQ _ _ (hu2.ch c3 (by simpa using hb)) ?_⟩
     rw [hr]
     by_cases hre : r = []
     ·rw [if_pos hre, hre]; rfl
     ·rw [if_neg hre, decide_eq_false (fun e => hre (by simpa using e))]
      exact ⟨((k : Int), 0, []), rfl⟩
   rw [bR 2 2 rfl, ae]
   split
   ·rename_i h2; exact main7 _ (by rw [decide_eq_true h2]; unfold tx; rw [decide_eq_true h2]; rfl)
   ·rename_i h2
    rw [bR 7 7 rfl, ae]
    split
    ·rename_i h7; exact main7 _ (by rw [decide_eq_true h7]; unfold tx; rw [decide_eq_false h2, decide_eq_true h7]; rfl)
    ·rename_i h7
     rw [bR 8 8 rfl]
     exact main7 _ (by unfold tx; rw [decide_eq_false h2, decide_eq_false h7]; rfl)
 rw [bR 1 1 rfl, ae]
 split
 ·rename_i h1; exact main _ (by unfold cV; rw [decide_eq_true h1]; rw [decide_eq_true (p := (k : Int) = 1) (by omega)]; rfl)
 ·rename_i h1
  rw [bR 10 10 rfl]
  refine main _ ?_
  unfold cV
  rw [decide_eq_false (p := (k : Int) = 1) (by omega), Bool.false_or]
  by_cases h10 : k = 10
  ·rw [decide_eq_true h10, decide_eq_true (p := (k : Int) = 10) (by omega)]
  ·rw [decide_eq_false h10, decide_eq_false (p := (k : Int) = 10) (by omega)]
end
end Go.G
