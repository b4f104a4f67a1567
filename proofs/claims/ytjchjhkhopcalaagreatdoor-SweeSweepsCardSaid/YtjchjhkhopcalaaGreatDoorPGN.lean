/- Names of the program's functions and types; what a call comes to. -/
import Derived.Test.YtjchjhkhopcalaaGreatDoorProg
import Derived.Test.YtjchjhkhopcalaaGreatDoorPKD
import Derived.Test.YtjchjhkhopcalaaGreatDoorPKE
import Derived.Test.YtjchjhkhopcalaaGreatDoorPXS
import Derived.KernelRfl
namespace Go.G
open Go.Ab Go.Proofs
abbrev KP := Value → Store → Prop
def F.S : Nat := 4
def F.Y : Nat := 11
def F.s : Nat := 12
def F.c1 : Nat := 13
def F.Z : Nat := 14
def F.r : Nat := 15
def F.g : Nat := 16
def F.E : Nat := 17
def F.d1 : Nat := 18
def F.w : Nat := 19
def F.X : Nat := 22
def F.F : Nat := 24
def F.U : Nat := 32
def F.Q : Nat := 33
def F.M : Nat := 34
def F.I : Nat := 35
def F.n : Nat := 36
def F.b1 : Nat := 37
def F.L : Nat := 38
def F.f : Nat := 39
def F.c : Nat := 40
def F.O : Nat := 41
def F.t : Nat := 42
def F.G : Nat := 43
def F.h : Nat := 65
def F.W : Nat := 66
def F.V : Nat := 67
def F.z : Nat := 68
def F.K : Nat := 69
def F.o : Nat := 70
def F.T : Nat := 71
def F.D : Nat := 72
def F.H : Nat := 73
def F.N : Nat := 74
def F.a : Nat := 77
def F.A : Nat := 78
def F.k : Nat := 79
def F.e : Nat := 98
def F.x : Nat := 100
def F.u : Nat := 101
def F.R : Nat := 102
def F.q : Nat := 103
def F.P : Nat := 104
def F.v : Nat := 107
def F.p : Nat := 108
def F.j : Nat := 109
def F.y : Nat := 110
def F.i : Nat := 114
def F.a1 : Nat := 134
def F.J : Nat := 135
def F.m : Nat := 142
def F.l : Nat := 154
def F.C : Nat := 155
def F.B : Nat := 175
def F.d : Nat := 177
def F.b : Nat := 188
def Ty.f : Nat := 3
def Ty.q : Nat := 4
def Ty.d : Nat := 5
def Ty.a : Nat := 9
def Ty.p : Nat := 20
def Ty.i : Nat := 22
def Ty.j : Nat := 28
def Ty.g : Nat := 35
def Ty.k : Nat := 37
def Ty.c : Nat := 66
def Ty.e : Nat := 68
def Ty.b : Nat := 75
def Ty.m : Nat := 82
def Ty.h : Nat := 120
def Ty.l : Nat := 130
def Ty.n : Nat := 208
def Ty.o : Nat := 265
theorem U.e : Tryz.prog.underlying Ty.f = some (.int .i64) := by kernel_rfl
theorem U.i : Tryz.prog.underlying Ty.q = some .bool := by kernel_rfl
theorem U.h : Tryz.prog.underlying Ty.d = some (.int .u8) := by kernel_rfl
theorem U.f : Tryz.prog.underlying Ty.a = some .string := by kernel_rfl
theorem U.b : Tryz.prog.underlying Ty.i = some (.pointer Ty.e) := by kernel_rfl
theorem U.a : Tryz.prog.underlying Ty.j = some (.pointer Ty.b) := by kernel_rfl
theorem U.c : Tryz.prog.underlying Ty.g = some (.slice Ty.f) := by kernel_rfl
theorem U.d : Tryz.prog.underlying Ty.k = some (.slice Ty.d) := by kernel_rfl
theorem U.g : Tryz.prog.underlying Ty.n = some (.int .u64) := by kernel_rfl
def Ex : Ext := fun f => bif Nat.beq f F.X then some mg else bif Nat.beq f F.E then some mg else bif Nat.beq f F.b then some l4 else bif Nat.beq f F.d then some lQ else bif Nat.beq f F.p then some nb else bif Nat.beq f F.o then some k7 else bif Nat.beq f F.x then some p3 else bif Nat.beq f F.e then some pO else bif Nat.beq f F.h then some r6 else bif Nat.beq f F.f then some fM else none
abbrev R (f : FuncId) (args : Array Value) (M : Store) (Q : KP) : Prop := Runs Tryz.prog Ex f args M Q
abbrev KC (f : Value) (args : List Value) (M : Store) (Q : KP) : Prop := p5 Tryz.prog Ex f args M Q
abbrev Aa (fn : Func) (p : List Nat) (Q : KP) : AAct → Store → Prop := fun a M => At Tryz.prog Ex none fn p a M Q
abbrev An (fn : Func) (p : List Nat) (n : Nat) (f : Nat → Value) (M : Store) (Q : KP) : Prop := At Tryz.prog Ex none fn p ⟨⟨n, f⟩, []⟩ M Q
abbrev fF : AAct → Store → Prop := fun _ _ => False
abbrev kE (fn : Func) (Q : KP) (e : Nat) : Ent := ⟨e, fun a M => l6 Tryz.prog fn.results.toList Q e a M, fun a M => l6 Tryz.prog fn.results.toList Q e a M⟩
theorem en {N : Nat} {p q : AAct → Store → Prop} (k : ∀ f M, p ⟨⟨N, f⟩, []⟩ M → q ⟨⟨N, f⟩, []⟩ M) : ∀ a M, a.t.n = N → dfr a.defers (p a M) → q a M := by
 intro a M hn h
 obtain ⟨⟨n, f⟩, ds⟩ := a
 have hn : n = N := hn
 subst hn
 obtain ⟨hd, h⟩ := ta h
 have hd : ds = [] := hd
 subst hd
 exact k f M h
theorem ed {N : Nat} {p q : AAct → Store → Prop} (k : ∀ f ds M, p ⟨⟨N, f⟩, ds⟩ M → q ⟨⟨N, f⟩, ds⟩ M) : ∀ a M, a.t.n = N → p a M → q a M := by
 intro a M hn h
 obtain ⟨⟨n, f⟩, ds⟩ := a
 have hn : n = N := hn
 subst hn
 exact k f ds M h
theorem el {N : Nat} {q : AAct → Store → Prop} : ∀ (a : AAct) (M : Store), a.t.n = N → False → q a M := fun _ _ _ h => h.elim
theorem er {N : Nat} {q : AAct → Store → Prop} : ∀ (a : AAct) (M : Store), a.t.n = N → q a M → q a M := fun _ _ _ h => h
theorem lp {fn : Func} {p : List Nat} {a : AAct} {M : Store} {Q : KP} (h : CW Tryz.prog Ex none (sub (bI fn) (p ++ [0])) a M fun e a M => bif Nat.beq e 0 then CW Tryz.prog Ex none (.loop (sub (bI fn) (p ++ [0]))) a M (eJ Tryz.prog Ex none (bI fn) p (l6 Tryz.prog fn.results.toList Q)) else eJ Tryz.prog Ex none (bI fn) p (l6 Tryz.prog fn.results.toList Q) e a M) (hx : sub (bI fn) p = .loop (sub (bI fn) (p ++ [0])) := by kernel_rfl) : At Tryz.prog Ex none fn p a M Q := by
 unfold At
 rw [hx]
 exact CW.loop h
theorem ro {f : FuncId} {fn : Func} {args : Array Value} {M : Store} {Q : KP} (hf : Tryz.prog.funcs[f]? = some fn) (h : At Tryz.prog Ex none fn [] (AAct.enter fn.ntmps args.toList) M Q) (hE : Ex f = none := by kernel_rfl) (hb : fn.body = some (bI fn) := by kernel_rfl) (hn : (fn.name == "runtime.NumGoroutine") = false := by kernel_rfl) : Runs Tryz.prog Ex f args M Q := tt hf hE hb hn h
theorem ru {P : Program} {E : Ext} {rd : Option Nat} {N : Nat} {c : Code} {ct : CT} {K : bU} {a : AAct} {M : Store} {X : Prop} (L : List Ent) (ms es : List Nat) (hL : pi N L) (h : X) (he : X = kwp P E rd (dy c ct) a M (nS L) := by kernel_rfl) (ha : a.t.n = N := by kernel_rfl) (hc : bD 1000 c ct = true := by kernel_rfl) (hl : az P E rd c ct K = ms.map fun m => (m, tgt L (m + 2)) := by kernel_rfl) (hx : es.map K = es.map (tgt L) := by kernel_rfl) (hes : ((L.map (·.e)).all fun e => Nat.ble (1000 + 2) e || es.elem e) = true := by kernel_rfl) : CW P E rd c a M K := uU L ms es ha hc hl hx hes hL (cast he h)
end Go.G
