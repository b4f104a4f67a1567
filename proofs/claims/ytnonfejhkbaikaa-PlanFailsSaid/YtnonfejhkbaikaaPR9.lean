/- Layer 6: one thing of its words, by the document. -/
import Derived.Test.YtnonfejhkbaikaaPR8d
import Derived.Test.YtnonfejhkbaikaaPR9n
namespace Go.G
open Go.Ab Go.Proofs Go.RowKit
set_option linter.unusedVariables false
set_option linter.unusedSimpArgs false
set_option maxRecDepth 100000
def sV (k : Nat) : Bool := decide (k = 2) || (decide (k = 7) || decide (k = 8))
def A9 (k : Nat) : List Ww → Option Dw
 | [x] => if x.2.2.2 then some ((k : Int), 0, x.1) else none
 | _ => none
def AQ (k : Nat) : List Ww → Option Dw
 | [x] => if x.2.2.2 then none else (match sL 9 x.1 with
  | some n => some ((k : Int), (n : Int), [])
  | none => none)
 | _ => none
def fl (k : Nat) (r : List Ww) : Option Dw :=
 if cZ (k : Int) then A9 k r else if sV k then AQ k r else if r = [] then some ((k : Int), 0, []) else none
def pE (t : List UInt8) : Nat → List (List UInt8) → Option Nat
 | _, [] => none
 | i, x :: r => if x = t then some i else pE t (i + 1) r
def mr : List Ww → Option Dw
 | [] => none
 | w :: r => if w.2.2.2 then none else match pE w.1 1 (fI.drop 1) with
  | none => none
  | some k => fl k r
theorem Fz {M : Store} {Q : Value → Store → Prop} (hQ : ∀ v M', Up M M' → LV sv Ty.a M' v fI → Q v M') : R F.Y #[] M Q := by
 apply C2
 unfold vx
 rw [show al (.string ⟨#[]⟩) 1 12 [(0, (.string ⟨#[]⟩)), (1, (.string ⟨#[116, 101, 120, 116]⟩)), (2, (.string ⟨#[105, 110]⟩)), (3, (.string ⟨#[97, 108, 108]⟩)), (4, (.string ⟨#[117, 112, 112, 101, 114]⟩)), (5, (.string ⟨#[108, 111, 119, 101, 114]⟩)), (6, (.string ⟨#[114, 101, 118]⟩)), (7, (.string ⟨#[116, 97, 107, 101]⟩)), (8, (.string ⟨#[100, 114, 111, 112]⟩)), (9, (.string ⟨#[116, 119, 105, 99, 101]⟩)), (10, (.string ⟨#[106, 111, 105, 110]⟩)), (11, (.string ⟨#[102, 97, 105, 108]⟩))] = some (fI.map sv) from by kernel_rfl, ab]
 refine pS (s := 1) (n := 12) rfl fun M1 u1 h1 o1 n1 => ?_
 exact ⟨rfl, hQ _ _ u1 h1.sl⟩
section
variable {M0 : Store} {v : Value} {w : Ww} {r : List Ww} {b : Nat} {Q : Value → Store → Prop}
theorem HZ (h : WW M0 v (w :: r)) (hw : ∀ x ∈ w :: r, x.1.length ≤ 2 ^ 40) (hb : M0.n ≤ b) {k : Nat} (hk : k ≤ 11) (hQ : ∀ q M, Up M0 M → CI q (fl k r) → Q q M) {M : Store} (hu : Up M0 M) (oA : Ob M b [iv 0, iv 0, sv []] Ty.f) : kA v (pt b) (iv (k : Int)) M Q := by
 have hbM : b < M.n := oA.lt
 have bad : ∀ (M' : Store), Up M0 M' → Ob M' b [iv 0, iv 0, sv []] Ty.f → fl k r = none →
     OP (bB #[(.int .i64 0), (.int .i64 0), (.string ⟨#[]⟩)] [(0, 1), (1, 1), (2, 1)] []) fun t14 => OP (st 3 (.pointer (some ⟨b, 0, none⟩)) t14 M') fun M2 => OP (ld 3 true (.pointer (some ⟨b, 0, none⟩)) M2) fun r2 => NTs [r2, (.bool false)] ∧ Q (.tuple #[r2, (.bool false)]) M2 := by
  intro M' hu o he
  rw [Av, ab]
  refine bp (vs := [iv 0, iv 0, sv []]) o rfl rfl rfl fun M2 c2 o2 n2 => ?_
  rw [o2.ldA (s := 3) rfl, ab]
  exact ⟨rfl, hQ _ _ (hu.ch c2 (by simpa using hb)) (by rw [he]; exact ⟨(0, 0, []), rfl⟩)⟩
 have fin : ∀ (M' : Store) (d : Dw) (b' : Nat) (ok : Bool), Up M0 M' → Ob M' b [iv 0, iv 0, sv []] Ty.f → Ob M' b' (dcs d) Ty.f → CI (.tuple #[dv d, .bool ok]) (fl k r) →
     OP (ld 3 true (.pointer (some ⟨b', 0, none⟩)) M') fun t69 => OP (st 3 (.pointer (some ⟨b, 0, none⟩)) t69 M') fun M12 => OP (ld 3 true (.pointer (some ⟨b, 0, none⟩)) M12) fun r2 => NTs [r2, (.bool ok)] ∧ Q (.tuple #[r2, (.bool ok)]) M12 := by
  intro M' d b' ok hu o o' he
  rw [o'.ldA (s := 3) rfl, ab]
  refine bp (vs := dcs d) o rfl rfl (s4 d) fun M2 c2 o2 n2 => ?_
  rw [o2.ldA (s := 3) rfl, ab]
  exact ⟨ID d ok, hQ _ _ (hu.ch c2 (by simpa using hb)) he⟩
 apply CX
 unfold vr
 rw [Jk, ab]
 refine aq fun M1 u1 oB n1 => ?_
 refine bp (vs := [iv (k : Int), iv 0, sv []]) oB rfl rfl rfl fun M2 c2 o2 n2 => ?_
 have hu2 : Up M0 M2 := hu.trans (u1.ch c2 (by simp))
 have oA2 : Ob M2 b [iv 0, iv 0, sv []] Ty.f := oA.up (u1.ch c2 (by simp))
 have hne : b ≠ M.n := by omega
 have hv : WW M2 v (w :: r) := Sl.up h hu2
 have main : ∀ (bb : Bool), bb = cZ (k : Int) → ig v (pt b) (pt M.n) (iv (k : Int)) (.bool bb) M2 Q := by
  intro bb hbb
  apply CY
  unfold vt
  simp only [aS]
  rw [au]
  split
  ·rename_i ht
   have hr : fl k r = A9 k r := by unfold fl; rw [if_pos (by rw [← hbb]; exact ht)]
   rw [hv.len, ab]
   show OP (ad .neq (iv ((w :: r).length : Int)) _) _
   rw [pJ 2 2 rfl, ae]
   split
   ·rename_i h2
    refine bad M2 hu2 oA2 ?_
    rw [hr]
    match r, h2 with
    | [], _ => rfl
    | [x], h2 => exact absurd rfl h2
    | _ :: _ :: _, _ => rfl
   ·rename_i h2
    obtain ⟨x, rfl⟩ : ∃ x, r = [x] := by
     match r, h2 with
     | [], h2 => exact absurd (by simp) h2
     | [x], _ => exact ⟨x, rfl⟩
     | _ :: _ :: _, h2 => exact absurd (by simp) h2
    show OP (ixA 4 v (iv ((1 : Nat) : Int))) _
    rw [iP hv (by simp) (f := 3) (w := tv x.2.2.2) rfl, aM, au]
    split
    ·rename_i hx
     exact bad M2 hu2 oA2 (by rw [hr]; simp only [A9]; rw [if_neg (by simpa using hx)])
    ·rename_i hx
     show OP (ixA 4 v (iv ((1 : Nat) : Int))) _
     rw [iP hv (by simp) (f := 0) (w := sv x.1) rfl]
     refine cY (i := 2) o2 (by simp) rfl rfl fun M3 c3 o3 n3 => ?_
     apply CZ
     unfold vu
     exact fin M3 ((k : Int), 0, x.1) M.n true (hu2.ch c3 (by simpa using hu.n)) (oA2.fr c3 (by simpa using hne)) o3 (by rw [hr]; simp only [A9]; rw [if_pos (by simpa using hx)]; rfl)
  ·rename_i ht
   have ht' : cZ (k : Int) = false := by rw [← hbb]; simpa using ht
   have main7 : ∀ (cc : Bool), cc = sV k → fM v (pt b) (pt M.n) (.bool cc) M2 Q := by
    intro cc hcc
    apply C0
    unfold vv
    simp only [aS]
    rw [au]
    split
    ·rename_i hc
     have hr : fl k r = AQ k r := by unfold fl; rw [if_neg (by rw [ht']; decide), if_pos (by rw [← hcc]; exact hc)]
     rw [hv.len, ab]
     show OP (ad .neq (iv ((w :: r).length : Int)) _) _
     rw [pJ 2 2 rfl, ae]
     split
     ·rename_i h2
      refine bad M2 hu2 oA2 ?_
      rw [hr]
      match r, h2 with
      | [], _ => rfl
      | [x], h2 => exact absurd rfl h2
      | _ :: _ :: _, _ => rfl
     ·rename_i h2
      obtain ⟨x, rfl⟩ : ∃ x, r = [x] := by
       match r, h2 with
       | [], h2 => exact absurd (by simp) h2
       | [x], _ => exact ⟨x, rfl⟩
       | _ :: _ :: _, h2 => exact absurd (by simp) h2
      show OP (ixA 4 v (iv ((1 : Nat) : Int))) _
      rw [iP hv (by simp) (f := 3) (w := tv x.2.2.2) rfl]
      show BR (.bool x.2.2.2) _ _
      rw [au]
      split
      ·rename_i hx
       exact bad M2 hu2 oA2 (by rw [hr]; simp only [AQ]; rw [if_pos hx])
      ·rename_i hx
       show OP (ixA 4 v (iv ((1 : Nat) : Int))) _
       rw [iP hv (by simp) (f := 0) (w := sv x.1) rfl]
       show R F.v #[sv x.1, iv ((9 : Nat) : Int)] M2 _
       refine Ed (hw x (by simp)) (by omega) ?_
       have hr2 : fl k [x] = (match sL 9 x.1 with
        | some n => some ((k : Int), (n : Int), [])
        | none => none) := by rw [hr]; simp only [AQ]; rw [if_neg hx]
       cases hn : sL 9 x.1 with
       | none =>
        rw [hn] at hr2
        unfold DL
        simp only
        rw [(tp2 _ _).1, (tp2 _ _).2]
        refine cY (i := 1) o2 (by simp) rfl rfl fun M3 c3 o3 n3 => ?_
        exact fin M3 ((k : Int), 0, []) M.n false (hu2.ch c3 (by simpa using hu.n)) (oA2.fr c3 (by simpa using hne)) o3 (by rw [hr2]; exact ⟨_, rfl⟩)
       | some n =>
        rw [hn] at hr2
        unfold DL
        simp only
        rw [(tp2 _ _).1, (tp2 _ _).2]
        refine cY (i := 1) o2 (by simp) rfl rfl fun M3 c3 o3 n3 => ?_
        exact fin M3 ((k : Int), (n : Int), []) M.n true (hu2.ch c3 (by simpa using hu.n)) (oA2.fr c3 (by simpa using hne)) o3 (by rw [hr2]; rfl)
    ·rename_i hc
     have hr : fl k r = if r = [] then some ((k : Int), 0, []) else none := by unfold fl; rw [if_neg (by rw [ht']; decide), if_neg (by rw [← hcc]; exact hc)]
     rw [o2.ldA (s := 3) rfl, ab, hv.len, ab]
     show OP (ad .eql (iv ((w :: r).length : Int)) _) _
     rw [bZ 1 1 rfl]
     refine bp (vs := [iv (k : Int), iv 0, sv []]) oA2 rfl rfl rfl fun M3 c3 o3 n3 => ?_
     rw [o3.ldA (s := 3) rfl, ab]
     refine ⟨rfl, hQ _ _ (hu2.ch c3 (by simpa using hb)) ?_⟩
     rw [hr]
     by_cases hre : r = []
     ·rw [if_pos hre, hre]; rfl
     ·rw [if_neg hre, decide_eq_false (fun e => hre (by simpa using e))]
      exact ⟨((k : Int), 0, []), rfl⟩
   rw [bZ 2 2 rfl, ae]
   split
   ·rename_i h2; exact main7 _ (by rw [decide_eq_true h2]; unfold sV; rw [decide_eq_true h2]; rfl)
   ·rename_i h2
    rw [bZ 7 7 rfl, ae]
    split
    ·rename_i h7; exact main7 _ (by rw [decide_eq_true h7]; unfold sV; rw [decide_eq_false h2, decide_eq_true h7]; rfl)
    ·rename_i h7
     rw [bZ 8 8 rfl]
     exact main7 _ (by unfold sV; rw [decide_eq_false h2, decide_eq_false h7]; rfl)
 rw [bZ 1 1 rfl, ae]
 split
 ·rename_i h1; exact main _ (by unfold cZ; rw [decide_eq_true h1]; rw [decide_eq_true (p := (k : Int) = 1) (by omega)]; rfl)
 ·rename_i h1
  rw [bZ 10 10 rfl]
  refine main _ ?_
  unfold cZ
  rw [decide_eq_false (p := (k : Int) = 1) (by omega), Bool.false_or]
  by_cases h10 : k = 10
  ·rw [decide_eq_true h10, decide_eq_true (p := (k : Int) = 10) (by omega)]
  ·rw [decide_eq_false h10, decide_eq_false (p := (k : Int) = 10) (by omega)]
end
end Go.G
