/- Layer 6: actions as values; texts that may be (cut from A6, A6a). -/
import Derived.Test.YtnonfejhkbaikaaPUG
import Derived.Test.YtnonfejhkbaikaaPN1
import Derived.Test.YtnonfejhkbaikaaPQ6
import Derived.Test.YtnonfejhkbaikaaPAbStep
import Derived.Test.YtnonfejhkbaikaaPAbVec2
namespace Go.G
open Go.Ab Go.Proofs Go.RowKit
set_option linter.unusedVariables false
set_option linter.unusedSimpArgs false
set_option maxRecDepth 100000
def dcs (d : Dw) : List Value := [iv d.1, iv d.2.1, sv d.2.2]
def dv (d : Dw) : Value := .agg (dcs d).toArray
theorem Ck (d : Dw) : (dcs d).length = 3 := rfl
theorem s4 (d : Dw) : (dcs d).all (·.oneCell') = true := by obtain ⟨a, b, c⟩ := d; kernel_rfl
abbrev DS (M : Store) (v : Value) (l : List Dw) : Prop := LK 3 dcs Ty.f M v l
abbrev NDS (M0 M : Store) (v : Value) (l : List Dw) : Prop := NK 3 dcs Ty.f M0 M v l
theorem Jq {M : Store} {v : Value} {l : List Dw} (h : DS M v l) {i : Nat} (hi : i < l.length) (K : Value → Prop) : (OP (ixA 3 v (iv (i : Int))) fun p => OP (ld 3 true p M) K) = K (dv l[i]) := by
 obtain ⟨p, e1, e2⟩ := LK.at Ck h hi .i64
 show (OP (ixA 3 v (.int .i64 (i : Int))) fun p => OP (ld 3 true p M) K) = _
 rw [e1, ab, e2 true]; rfl
theorem Hv {s : List UInt8} {i : Nat} (h : i < s.length) (hb : ke s[i] = false) : jt s = false := by
 unfold jt
 have : s.all ke = false := by rw [List.all_eq_false]; exact ⟨s[i], List.getElem_mem h, by rw [hb]; decide⟩
 rw [this, Bool.false_and]
theorem Hw {s : List UInt8} (h : ∀ j (hj : j < s.length), ke s[j] = true) : jt s = decide (s.length ≤ 64) := by
 unfold jt
 have : s.all ke = true := List.all_eq_true.2 fun c hc => by
  obtain ⟨j, hj, rfl⟩ := List.getElem_of_mem hc
  exact h j hj
 rw [this, Bool.true_and]
theorem E6 {s : List UInt8} {i : Nat} (hi : i < s.length) {F G : Prop} (hF : ke s[i] = false → F) (hG : ke s[i] = true → G) :
    OP (ixS (sv s) (iv (i : Int))) fun t11 => OP (ad .lss t11 (.int .u8 32)) fun t12 => BR t12 F (OP (ixS (sv s) (iv (i : Int))) fun t16 => OP (ad .gtr t16 (.int .u8 126)) fun t17 => BR t17 F (
     OP (ixS (sv s) (iv (i : Int))) fun t22 => OP (ad .eql t22 (.int .u8 34)) fun t23 => BR t23 F G)) := by
 rw [kF s i hi, sy (d := 32) (n := 32) rfl, ae]
 split
 ·rename_i h; exact hF (by unfold ke; rw [decide_eq_true h]; rfl)
 ·rename_i h1
  rw [kF s i hi, sw (d := 126) (n := 126) rfl, ae]
  split
  ·rename_i h; exact hF (by unfold ke; rw [decide_eq_true (p := 126 < s[i]) h]; simp)
  ·rename_i h2
   rw [kF s i hi, cU (d := 34) (n := 34) rfl, ae]
   split
   ·rename_i h; exact hF (by unfold ke; rw [decide_eq_true (p := s[i] = 34) h]; simp)
   ·rename_i h3
    exact hG (by unfold ke; rw [decide_eq_false h1, decide_eq_false (p := 126 < s[i]) h2, decide_eq_false (p := s[i] = 34) h3]; rfl)
theorem BQ {M : Store} {s : List UInt8} (hs : s.length ≤ 2 ^ 40) {Q : Value → Store → Prop} (hQ : Q (tv (jt s)) M) : ∀ (d i : Nat), d + i = s.length → (∀ j (hj : j < i) (hl : j < s.length), ke s[j] = true) → d7 (sv s) (iv (i : Int)) M Q := by
 intro d
 induction d with
 | zero =>
  intro i hi h
  apply r5
  unfold lX
  rw [eK, ag, ae, if_neg (by omega)]
  apply z5
  unfold rx
  rw [Hw fun j hj => h j (by omega) hj] at hQ
  rw [eK, DE 64 64 rfl]
  exact ⟨rfl, hQ⟩
 | succ d ih =>
  intro i hi h
  apply r5
  unfold lX
  have hil : i < s.length := by omega
  rw [eK, ag, ae, if_pos hil]
  apply z4
  unfold rv
  refine E6 hil (fun hb => ?_) fun hb => ?_
  ·rw [Hv hil hb] at hQ; exact ⟨rfl, hQ⟩
  ·rw [ah _ (by omega)]
   refine ih (i + 1) (by omega) fun j hj hl => ?_
   by_cases e : j = i
   ·subst e; exact hb
   ·exact h j (by omega) hl
theorem Fv {M : Store} {s : List UInt8} (hs : s.length ≤ 2 ^ 40) {Q : Value → Store → Prop} (hQ : Q (tv (jt s)) M) : R F.X #[sv s] M Q := by
 apply C1
 unfold vw
 exact BQ hs hQ s.length 0 rfl fun j hj => by omega
theorem F6 (a b : Bool) (K : Value → Prop) : OP (gJ Try.prog false .neq Ty.j (tv a) (tv b)) K = K (tv (a != b)) := by
 have : gJ Try.prog false .neq Ty.j (.bool a) (.bool b) = some (.bool (a != b)) := by kernel_rfl
 rw [this]; rfl
theorem BM (l : List Dw) : ∀ i, jQ i (l.drop i) = (if h : i < l.length then fT (decide (i = 0)) l[i] && jQ (i + 1) (l.drop (i + 1)) else true) := by
 intro i
 split
 ·rename_i h; rw [List.drop_eq_getElem_cons h, jQ]
 ·rename_i h; rw [List.drop_of_length_le (by omega)]; rfl
abbrev pt (b : Nat) : Value := .pointer (some ⟨b, 0, none⟩)
theorem Jg (d : Dw) : al (.agg #[(.int .i64 0), (.int .i64 0), (.string ⟨#[]⟩)]) 3 1 [(0, dv d)] = some (dcs d) := by obtain ⟨a, b, c⟩ := d; kernel_rfl
theorem Jk (k : Int) : bB #[(.int .i64 0), (.int .i64 0), (.string ⟨#[]⟩)] [(0, 1), (1, 1), (2, 1)] [(0, iv k)] = some (.agg [iv k, iv 0, sv []].toArray) := by kernel_rfl
end Go.G
