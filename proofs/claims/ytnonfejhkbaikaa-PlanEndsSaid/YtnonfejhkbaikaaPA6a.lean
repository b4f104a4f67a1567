/- Layer 6: actions as values; texts that may be (cut from A6, A6a). -/
import Derived.Test.YtnonfejhkbaikaaPUG
import Derived.Test.YtnonfejhkbaikaaPN1
import Derived.Test.YtnonfejhkbaikaaPQ6
import Derived.Test.YtnonfejhkbaikaaPAbStep
import Derived.Test.YtnonfejhkbaikaaPAbVec2
namespace Go.G
open Go.Ab Go.Proofs Go.RowKit
set_option linter.unusedVariables false
set_option linter.unusedSimpArgs false
set_option maxRecDepth 100000
def dcs (d : Dw) : List Value := [iv d.1, iv d.2.1, sv d.2.2]
def dv (d : Dw) : Value := .agg (dcs d).toArray
theorem CK (d : Dw) : (dcs d).length = 3 := rfl
theorem tE (d : Dw) : (dcs d).all (·.oneCell') = true := by obtain ⟨a, b, c⟩ := d; kernel_rfl
abbrev DS (M : Store) (v : Value) (l : List Dw) : Prop := LK 3 dcs Ty.f M v l
abbrev NDS (M0 M : Store) (v : Value) (l : List Dw) : Prop := NK 3 dcs Ty.f M0 M v l
theorem JO {M : Store} {v : Value} {l : List Dw} (h : DS M v l) {i : Nat} (hi : i < l.length) (K : Value → Prop) : (OP (ixA 3 v (iv (i : Int))) fun p => OP (ld 3 true p M) K) = K (dv l[i]) := by
 obtain ⟨p, e1, e2⟩ := LK.at CK h hi .i64
 show (OP (ixA 3 v (.int .i64 (i : Int))) fun p => OP (ld 3 true p M) K) = _
 rw [e1, ab, e2 true]; rfl
theorem HW {s : List UInt8} {i : Nat} (h : i < s.length) (hb : j3 s[i] = false) : jn s = false := by
 unfold jn
 have : s.all j3 = false := by rw [List.all_eq_false]; exact ⟨s[i], List.getElem_mem h, by rw [hb]; decide⟩
 rw [this, Bool.false_and]
theorem HX {s : List UInt8} (h : ∀ j (hj : j < s.length), j3 s[j] = true) : jn s = decide (s.length ≤ 64) := by
 unfold jn
 have : s.all j3 = true := List.all_eq_true.2 fun c hc => by
  obtain ⟨j, hj, rfl⟩ := List.getElem_of_mem hc
  exact h j hj
 rw [this, Bool.true_and]
theorem FC {s : List UInt8} {i : Nat} (hi : i < s.length) {F G : Prop} (hF : j3 s[i] = false → F) (hG : j3 s[i] = true → G) :
    OP (ixS (sv s) (iv (i : Int))) fun t11 => OP (ad .lss t11 (.int .u8 32)) fun t12 => BR t12 F (OP (ixS (sv s) (iv (i : Int))) fun t16 => OP (ad .gtr t16 (.int .u8 126)) fun t17 => BR t17 F (
     OP (ixS (sv s) (iv (i : Int))) fun t22 => OP (ad .eql t22 (.int .u8 34)) fun t23 => BR t23 F G)) := by
 rw [ki s i hi, sV (d := 32) (n := 32) rfl, ae]
 split
 ·rename_i h; exact hF (by unfold j3; rw [decide_eq_true h]; rfl)
 ·rename_i h1
  rw [ki s i hi, sU (d := 126) (n := 126) rfl, ae]
  split
  ·rename_i h; exact hF (by unfold j3; rw [decide_eq_true (p := 126 < s[i]) h]; simp)
  ·rename_i h2
   rw [ki s i hi, cQ (d := 34) (n := 34) rfl, ae]
   split
   ·rename_i h; exact hF (by unfold j3; rw [decide_eq_true (p := s[i] = 34) h]; simp)
   ·rename_i h3
    exact hG (by unfold j3; rw [decide_eq_false h1, decide_eq_false (p := 126 < s[i]) h2, decide_eq_false (p := s[i] = 34) h3]; rfl)
theorem Ci {M : Store} {s : List UInt8} (hs : s.length ≤ 2 ^ 40) {Q : Value → Store → Prop} (hQ : Q (tv (jn s)) M) : ∀ (d i : Nat), d + i = s.length → (∀ j (hj : j < i) (hl : j < s.length), j3 s[j] = true) → dX (sv s) (iv (i : Int)) M Q := by
 intro d
 induction d with
 | zero =>
  intro i hi h
  apply sG
  unfold lO
  rw [eH, ai, ae, if_neg (by omega)]
  apply Aw
  unfold rX
  rw [HX fun j hj => h j (by omega) hj] at hQ
  rw [eH, D7 64 64 rfl]
  exact ⟨rfl, hQ⟩
 | succ d ih =>
  intro i hi h
  apply sG
  unfold lO
  have hil : i < s.length := by omega
  rw [eH, ai, ae, if_pos hil]
  apply Av
  unfold rW
  refine FC hil (fun hb => ?_) fun hb => ?_
  ·rw [HW hil hb] at hQ; exact ⟨rfl, hQ⟩
  ·rw [ag _ (by omega)]
   refine ih (i + 1) (by omega) fun j hj hl => ?_
   by_cases e : j = i
   ·subst e; exact hb
   ·exact h j (by omega) hl
theorem FY {M : Store} {s : List UInt8} (hs : s.length ≤ 2 ^ 40) {Q : Value → Store → Prop} (hQ : Q (tv (jn s)) M) : R F.Z #[sv s] M Q := by
 apply Dv
 unfold v5
 exact Ci hs hQ s.length 0 rfl fun j hj => by omega
theorem Gy (a b : Bool) (K : Value → Prop) : OP (gG Try.prog false .neq Ty.j (tv a) (tv b)) K = K (tv (a != b)) := by
 have : gG Try.prog false .neq Ty.j (.bool a) (.bool b) = some (.bool (a != b)) := by kernel_rfl
 rw [this]; rfl
theorem Cd (l : List Dw) : ∀ i, jG i (l.drop i) = (if h : i < l.length then fP (decide (i = 0)) l[i] && jG (i + 1) (l.drop (i + 1)) else true) := by
 intro i
 split
 ·rename_i h; rw [List.drop_eq_getElem_cons h, jG]
 ·rename_i h; rw [List.drop_of_length_le (by omega)]; rfl
abbrev pt (b : Nat) : Value := .pointer (some ⟨b, 0, none⟩)
theorem JE (d : Dw) : an (.agg #[(.int .i64 0), (.int .i64 0), (.string ⟨#[]⟩)]) 3 1 [(0, dv d)] = some (dcs d) := by obtain ⟨a, b, c⟩ := d; kernel_rfl
theorem JI (k : Int) : bE #[(.int .i64 0), (.int .i64 0), (.string ⟨#[]⟩)] [(0, 1), (1, 1), (2, 1)] [(0, iv k)] = some (.agg [iv k, iv 0, sv []].toArray) := by kernel_rfl
end Go.G
