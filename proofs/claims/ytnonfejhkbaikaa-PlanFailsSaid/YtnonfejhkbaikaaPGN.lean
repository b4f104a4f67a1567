/- Names of the program's functions and types; what a call comes to. -/
import Derived.Test.YtnonfejhkbaikaaProg
import Derived.Test.YtnonfejhkbaikaaPKD
import Derived.Test.YtnonfejhkbaikaaPKE
import Derived.KernelRfl
namespace Go.G
open Go.Ab Go.Proofs
abbrev KP := Value → Store → Prop
def F.J : Nat := 8
def F.o : Nat := 13
def F.p : Nat := 15
def F.Q : Nat := 18
def F.H : Nat := 19
def F.lM : Nat := 20
def F.w : Nat := 21
def F.G : Nat := 22
def F.D : Nat := 26
def F.U : Nat := 27
def F.R : Nat := 29
def F.S : Nat := 31
def F.F : Nat := 32
def F.m : Nat := 35
def F.K : Nat := 38
def F.f : Nat := 39
def F.B : Nat := 40
def F.b : Nat := 41
def F.V : Nat := 45
def F.a1 : Nat := 46
def F.d1 : Nat := 47
def F.a : Nat := 48
def F.i : Nat := 49
def F.E : Nat := 50
def F.t : Nat := 51
def F.C : Nat := 53
def F.Z : Nat := 54
def F.k : Nat := 55
def F.n : Nat := 56
def F.h : Nat := 57
def F.s : Nat := 58
def F.d : Nat := 61
def F.z : Nat := 62
def F.N : Nat := 63
def F.e1 : Nat := 64
def F.j : Nat := 65
def F.i1 : Nat := 66
def F.A : Nat := 67
def F.g : Nat := 68
def F.r : Nat := 69
def F.c : Nat := 70
def F.u : Nat := 71
def F.L : Nat := 72
def F.e : Nat := 73
def F.I : Nat := 74
def F.l : Nat := 75
def F.y : Nat := 76
def F.M : Nat := 77
def F.W : Nat := 78
def F.q : Nat := 79
def F.b1 : Nat := 80
def F.O : Nat := 81
def F.h1 : Nat := 82
def F.P : Nat := 83
def F.g1 : Nat := 84
def F.f1 : Nat := 85
def F.x : Nat := 86
def F.c1 : Nat := 87
def F.T : Nat := 88
def F.Y : Nat := 89
def F.v : Nat := 90
def F.X : Nat := 91
def Ty.b : Nat := 3
def Ty.j : Nat := 4
def Ty.o : Nat := 5
def Ty.a : Nat := 9
def Ty.u : Nat := 20
def Ty.m : Nat := 22
def Ty.i : Nat := 27
def Ty.l : Nat := 30
def Ty.d : Nat := 39
def Ty.h : Nat := 41
def Ty.t : Nat := 44
def Ty.q : Nat := 47
def Ty.g : Nat := 53
def Ty.n : Nat := 60
def Ty.r : Nat := 72
def Ty.e : Nat := 81
def Ty.s : Nat := 83
def Ty.c : Nat := 87
def Ty.p : Nat := 106
def Ty.k : Nat := 121
def Ty.f : Nat := 125
theorem U.d : Try.prog.underlying Ty.b = some (.int .i64) := by kernel_rfl
theorem U.k : Try.prog.underlying Ty.j = some .bool := by kernel_rfl
theorem U.j : Try.prog.underlying Ty.o = some (.int .u8) := by kernel_rfl
theorem U.i : Try.prog.underlying Ty.a = some .string := by kernel_rfl
theorem U.f : Try.prog.underlying Ty.m = some (.slice Ty.a) := by kernel_rfl
theorem U.a : Try.prog.underlying Ty.i = some (.slice Ty.b) := by kernel_rfl
theorem U.b : Try.prog.underlying Ty.l = some (.func #[3] #[27] false) := by kernel_rfl
theorem U.g : Try.prog.underlying Ty.t = some (.slice Ty.o) := by kernel_rfl
theorem U.h : Try.prog.underlying Ty.r = some (.slice Ty.j) := by kernel_rfl
theorem U.c : Try.prog.underlying Ty.e = some (.slice Ty.c) := by kernel_rfl
theorem U.e : Try.prog.underlying Ty.k = some (.slice Ty.f) := by kernel_rfl
def Ex : Ext := fun f => bif Nat.beq f F.Q then some xJ else bif Nat.beq f F.m then some xJ else none
abbrev R (f : FuncId) (args : Array Value) (M : Store) (Q : KP) : Prop := Runs Try.prog Ex f args M Q
abbrev KC (f : Value) (args : List Value) (M : Store) (Q : KP) : Prop := td Try.prog Ex f args M Q
abbrev Aa (fn : Func) (p : List Nat) (Q : KP) : AAct → Store → Prop := fun a M => At Try.prog Ex none fn p a M Q
abbrev An (fn : Func) (p : List Nat) (n : Nat) (f : Nat → Value) (M : Store) (Q : KP) : Prop := At Try.prog Ex none fn p ⟨⟨n, f⟩, []⟩ M Q
abbrev fF : AAct → Store → Prop := fun _ _ => False
abbrev kE (fn : Func) (Q : KP) (e : Nat) : Ent := ⟨e, fun a M => nS Try.prog fn.results.toList Q e a M, fun a M => nS Try.prog fn.results.toList Q e a M⟩
theorem en {N : Nat} {p q : AAct → Store → Prop} (k : ∀ f M, p ⟨⟨N, f⟩, []⟩ M → q ⟨⟨N, f⟩, []⟩ M) : ∀ a M, a.t.n = N → dfr a.defers (p a M) → q a M := by
 intro a M hn h
 obtain ⟨⟨n, f⟩, ds⟩ := a
 have hn : n = N := hn
 subst hn
 obtain ⟨hd, h⟩ := Cl h
 have hd : ds = [] := hd
 subst hd
 exact k f M h
theorem ed {N : Nat} {p q : AAct → Store → Prop} (k : ∀ f ds M, p ⟨⟨N, f⟩, ds⟩ M → q ⟨⟨N, f⟩, ds⟩ M) : ∀ a M, a.t.n = N → p a M → q a M := by
 intro a M hn h
 obtain ⟨⟨n, f⟩, ds⟩ := a
 have hn : n = N := hn
 subst hn
 exact k f ds M h
theorem el {N : Nat} {q : AAct → Store → Prop} : ∀ (a : AAct) (M : Store), a.t.n = N → False → q a M := fun _ _ _ h => h.elim
theorem er {N : Nat} {q : AAct → Store → Prop} : ∀ (a : AAct) (M : Store), a.t.n = N → q a M → q a M := fun _ _ _ h => h
theorem lp {fn : Func} {p : List Nat} {a : AAct} {M : Store} {Q : KP} (h : CW Try.prog Ex none (sub (bt fn) (p ++ [0])) a M fun e a M => bif Nat.beq e 0 then CW Try.prog Ex none (.loop (sub (bt fn) (p ++ [0]))) a M (fV Try.prog Ex none (bt fn) p (nS Try.prog fn.results.toList Q)) else fV Try.prog Ex none (bt fn) p (nS Try.prog fn.results.toList Q) e a M) (hx : sub (bt fn) p = .loop (sub (bt fn) (p ++ [0])) := by kernel_rfl) : At Try.prog Ex none fn p a M Q := by
 unfold At
 rw [hx]
 exact CW.loop h
theorem ro {f : FuncId} {fn : Func} {args : Array Value} {M : Store} {Q : KP} (hf : Try.prog.funcs[f]? = some fn) (h : At Try.prog Ex none fn [] (AAct.enter fn.ntmps args.toList) M Q) (hE : Ex f = none := by kernel_rfl) (hb : fn.body = some (bt fn) := by kernel_rfl) (hn : (fn.name == "runtime.NumGoroutine") = false := by kernel_rfl) : Runs Try.prog Ex f args M Q := H5 hf hE hb hn h
theorem ru {P : Program} {E : Ext} {rd : Option Nat} {N : Nat} {c : Code} {ct : CT} {K : cS} {a : AAct} {M : Store} {X : Prop} (L : List Ent) (ms es : List Nat) (hL : za N L) (h : X) (he : X = kwp P E rd (ge c ct) a M (xr L) := by kernel_rfl) (ha : a.t.n = N := by kernel_rfl) (hc : cO 1000 c ct = true := by kernel_rfl) (hl : aD P E rd c ct K = ms.map fun m => (m, tgt L (m + 2)) := by kernel_rfl) (hx : es.map K = es.map (tgt L) := by kernel_rfl) (hes : ((L.map (·.e)).all fun e => Nat.ble (1000 + 2) e || es.elem e) = true := by kernel_rfl) : CW P E rd c a M K := GG L ms es ha hc hl hx hes hL (cast he h)
end Go.G
