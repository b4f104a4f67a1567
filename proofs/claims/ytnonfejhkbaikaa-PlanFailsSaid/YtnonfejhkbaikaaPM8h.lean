/- Layer 8, the document: all that is wanted. -/
import Derived.Test.YtnonfejhkbaikaaPUO
import Derived.Test.YtnonfejhkbaikaaPM8g
namespace Go.G
open Go.Ab Go.Proofs Go.RowKit
set_option linter.unusedVariables false
set_option linter.unusedSimpArgs false
set_option maxRecDepth 100000
theorem HX {rs : List RuT} (ho : OkRs [] rs) {ns : List (List UInt8)} {i : Nat} (hi : i ∈ i9 rs ns) : (i : Int) ∈ sR rs ns := by
 obtain ⟨r, hr⟩ := pq (Cw ho ns).1
 rw [hr]
 exact List.mem_append_left _ ((xH _ _).2 (jc.2 ⟨i, hi, rfl⟩))
def upd (F : Nat → Bool) (j : Nat) (b : Bool) : Nat → Bool := fun i => if i = j then b else F i
section
variable {M0 : Store} {b : Nat} {vR vD x1 x5 : Value} {rs : List RuT} {ns ds : List (List UInt8)} {Q : Value → Store → Prop}
end
end Go.G
