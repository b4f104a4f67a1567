/- Layer 6: words as values (cut from R8b, R8c, R8d). -/
import Derived.Test.YtnonfejhkbaikaaPA6a
import Derived.Test.YtnonfejhkbaikaaPQ6c
namespace Go.G
open Go.Ab Go.Proofs Go.RowKit
set_option linter.unusedVariables false
set_option linter.unusedSimpArgs false
set_option maxRecDepth 100000
def wws (w : Ww) : List Value := [sv w.1, iv w.2.1, iv w.2.2.1, tv w.2.2.2]
theorem ji (w : Ww) : (wws w).length = 4 := rfl
abbrev WW (M : Store) (v : Value) (ws : List Ww) : Prop := LK 4 wws Ty.c M v ws
theorem iP {M : Store} {v : Value} {ws : List Ww} (h : WW M v ws) {i : Nat} (hi : i < ws.length) {f : Nat} {w : Value} (hf : (wws ws[i])[f]? = some w) (K : Value → Prop) : (OP (ixA 4 v (iv (i : Int))) fun p => OP (fad f p) fun p => OP (ld 1 false p M) K) = K w := by
 obtain ⟨b, o, e1, e2⟩ := LK.fld ji h hi hf .i64
 show (OP (ixA 4 v (.int .i64 (i : Int))) fun p => OP (fad f p) fun p => OP (ld 1 false p M) K) = _
 rw [e1, ab, py, e2, ab]
theorem Av : bB #[(.int .i64 0), (.int .i64 0), (.string ⟨#[]⟩)] [(0, 1), (1, 1), (2, 1)] [] = some (.agg [iv 0, iv 0, sv []].toArray) := by kernel_rfl
def CI (r : Value) : Option Dw → Prop
 | none => ∃ d : Dw, r = .tuple #[dv d, .bool false]
 | some d => r = .tuple #[dv d, .bool true]
theorem ID (d : Dw) (b : Bool) : NTs [dv d, .bool b] := by obtain ⟨a, c, e⟩ := d; rfl
def dO (w : Ww) : Bool := decide (w.1 = [59]) && !w.2.2.2
def Ge (out : List Dw) : Option (List Dw) := if okA out then some out else none
theorem FJ (w : Ww) : aX (.agg (wws w).toArray) = some (wws w) := by obtain ⟨a, b, c, d⟩ := w; kernel_rfl
theorem dP {M : Store} {v : Value} {ws : List Ww} (h : WW M v ws) {i : Nat} (hi : i < ws.length) (K : Value → Prop) : (OP (ixA 4 v (iv (i : Int))) fun p => OP (ld 4 true p M) K) = K (.agg (wws ws[i]).toArray) := by
 obtain ⟨p, e1, e2⟩ := LK.at ji h hi .i64
 show (OP (ixA 4 v (.int .i64 (i : Int))) fun p => OP (ld 4 true p M) K) = _
 rw [e1, ab, e2 true]; rfl
def ve (M0 M : Store) (r : Value) : Option (List Dw) → Prop
 | none => r = .tuple #[.slice none 0 0, .bool false]
 | some l => ∃ w, r = .tuple #[w, .bool true] ∧ NDS M0 M w l
end Go.G
