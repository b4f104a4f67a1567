/- ... -/
import Derived.Test.YtjchjhkhopcalaaGreatDoorPKC
import Derived.Test.YtjchjhkhopcalaaGreatDoorPKD
import Derived.KernelRfl
import Derived.Deep.Matrix
import Derived.SliceStrings
import Derived.Laws.Externs
import Derived.Lib.Bytealg
import Derived.Lib.LaidTab
import Derived.Lib.LaidU8
import Derived.MakeChecks
import Derived.Handed
import Derived.LaidLaws
import Derived.Shelf.Strconv.Itoa3
import Derived.Shelf.Strconv.AtoiAll
import Derived.Shelf.Strings.OnBuilder
import Derived.Lib.AtoiErrMem
set_option linter.unusedVariables false
set_option linter.unusedSimpArgs false
namespace Go.Ab
def mg : Array Value → Store → Option (Value × Store) := fun args M => if args.size = 0 then some (.bool true, M) else none
theorem qK {P : Program} {call : ap} {f : FuncId} (hc : ay P f (call true f)) {M' : Store} (h : call true f #[] M00 = some (.bool true, M')) : ay P f mg := by
 intro args M v M1 hg
 unfold mg at hg
 split at hg
 ·rename_i ha
  injection hg with hg; injection hg with h1 h2; subst h1; subst h2
  obtain ⟨⟨hf, _⟩, h2⟩ := hc #[] M00 _ M' h
  refine ⟨⟨hf, Grow.refl _⟩, fun μ w cargs hG hR hargs => ?_⟩
  have hcs : cargs = #[] := by
   apply Array.toList_inj.1
   have := hargs.1
   apply List.length_eq_zero_iff.1
   rw [this]; simpa using ha
  subst hcs
  refine (h2 fu w #[] (sA hG.gsh) (q8 w hG.gsh) (LRel.nil _)).mono fun e w' ⟨cv, he, μ', hR', hS, hv⟩ => ?_
  have hb := hS.below (fun _ _ h => (dk h).1)
  obtain ⟨t, _, hheap, _⟩ := hS.log
  have hheap : ∀ b, b < w.heap.size → w'.heap[b]? = w.heap[b]? := fun b hb => hheap b hb fun i _ l hl ho => by rw [(dk hl).1] at ho; cases ho
  refine ⟨.bool true, by rw [he, hv.bool], μ, ⟨fun i l hl => ?_, fun i l hl => ?_, hR.excl⟩, ⟨.refl _, Nat.le_refl _, hS.size, hS.os, hS.tape, hS.output, hS.shp, [], rfl, fun b hb _ => hheap b hb, fun i l hl => .inl hl⟩, rfl⟩
  ·exact ⟨(hR.dom i l hl).1, Nat.lt_of_lt_of_le (hR.dom i l hl).2 hS.size⟩
  ·exact (hR.obj i l hl).mono (.refl _) hS.shp (hheap _ (hR.dom i l hl).2)
 ·cases hg
end Go.Ab

set_option linter.unusedVariables false
set_option linter.unusedSimpArgs false
namespace Go.Ab
section
variable (P : Program) (call : ap) (k : Nat) (rd : Option Nat)
end
def okB (x : Option (Value × Store)) : Bool := match x with
 | some (.bool b, _) => b
 | _ => false
theorem ui {x : Option (Value × Store)} (h : okB x = true) : ∃ M', x = some (.bool true, M') := by
 unfold okB at h
 split at h
 ·subst h; exact ⟨_, rfl⟩
 ·cases h
end Go.Ab

set_option linter.unusedVariables false
set_option linter.unusedSimpArgs false
namespace Go.Ab
structure Ch (S : List Nat) (M M' : Store) : Prop where
 n : M.n ≤ M'.n
 get : ∀ i, i < M.n → i ∉ S → M'.get i = M.get i
 log : ∃ t, M'.log = t ++ M.log ∧ ∀ b ∈ t, M.n ≤ b ∨ b ∈ S
abbrev Up (M M' : Store) : Prop := Ch [] M M'
theorem Ch.refl (S : List Nat) (M : Store) : Ch S M M := ⟨Nat.le_refl _, fun _ _ _ => rfl, [], rfl, fun _ h => by cases h⟩
theorem Ch.trans' {S S' : List Nat} {M M1 M2 : Store} (h : Ch S M M1) (k : Ch S' M1 M2) (hs : ∀ b ∈ S', b ∈ S ∨ M.n ≤ b) : Ch S M M2 := by
 obtain ⟨t, ht, h1⟩ := h.log
 obtain ⟨t', ht', h2⟩ := k.log
 refine ⟨Nat.le_trans h.n k.n, fun i hi hn => ?_, t' ++ t, by rw [ht', ht, List.append_assoc], fun b hb => ?_⟩
 ·rw [k.get i (Nat.lt_of_lt_of_le hi h.n) (fun hm => by rcases hs i hm with h3 | h3; exact hn h3; omega), h.get i hi hn]
 ·rcases List.mem_append.1 hb with hb | hb
  ·rcases h2 b hb with h3 | h3
   ·exact .inl (Nat.le_trans h.n h3)
   ·exact (hs b h3).symm
  ·exact h1 b hb
theorem Ch.trans {S : List Nat} {M M1 M2 : Store} (h : Ch S M M1) (k : Ch S M1 M2) : Ch S M M2 := h.trans' k fun _ hb => .inl hb
theorem Ch.up {S : List Nat} {M M1 M2 : Store} (h : Ch S M M1) (k : Up M1 M2) : Ch S M M2 := h.trans' k fun _ hb => by cases hb
theorem Up.ch {S : List Nat} {M M1 M2 : Store} (h : Up M M1) (k : Ch S M1 M2) (hs : ∀ b ∈ S, M.n ≤ b) : Up M M2 := h.trans' k fun b hb => .inr (hs b hb)
theorem Ch.mono {S S' : List Nat} {M M' : Store} (h : Ch S M M') (hs : ∀ b ∈ S, b ∈ S') : Ch S' M M' := by
 obtain ⟨t, ht, h1⟩ := h.log
 exact ⟨h.n, fun i hi hn => h.get i hi fun hm => hn (hs _ hm), t, ht, fun b hb => (h1 b hb).imp id (hs b)⟩
theorem Up.any {S : List Nat} {M M' : Store} (h : Up M M') : Ch S M M' := h.mono fun _ hb => by cases hb
theorem Up.push (M : Store) (o : aJ) : Up M (M.push o) :=
 ⟨Nat.le_succ _, fun i hi _ => Store.get_push_ne M o (Nat.ne_of_lt hi), [], rfl, fun _ h => by cases h⟩
theorem Up.push' {M M1 : Store} (h : Up M M1) (o : aJ) : Up M (M1.push o) := h.trans (Up.push _ _)
theorem Ch.set {M : Store} {b : Nat} {x} (hb : M.get b = some x) (o : aJ) : Ch [b] M (M.set b o) :=
 ⟨by simp, fun i hi hn => Store.get_set_ne M o (fun e => hn (by simp [e])), [b], Store.set_log M o hb, fun c hc => .inr hc⟩
theorem Up.set {M M1 : Store} (h : Up M M1) {b : Nat} {x} (hb : M1.get b = some x) (hn : M.n ≤ b) (o : aJ) : Up M (M1.set b o) :=
 h.ch (Ch.set hb o) fun c hc => by simp at hc; omega
theorem Up.get {M M' : Store} (h : Up M M') {i : Nat} {x} (hi : M.get i = some x) : M'.get i = some x := by
 rw [Ch.get h i (M.lt_of_get hi) (by simp), hi]
theorem Ch.tdiff {S : List Nat} {M M' : Store} (h : Ch S M M') : ∀ b ∈ tdiff M M', M.n ≤ b ∨ b ∈ S := by
 obtain ⟨t, ht, h1⟩ := h.log
 intro b hb
 unfold Go.Ab.tdiff at hb
 rw [ht] at hb
 have e : (t ++ M.log).length - M.log.length = t.length := by simp
 rw [e, List.take_left'] at hb
 ·exact h1 b hb
 ·rfl
theorem Up.fr {M M' : Store} (h : Up M M') : ∀ b ∈ Go.Ab.tdiff M M', M.n ≤ b := fun b hb => by
 rcases h.tdiff b hb with h | h
 ·exact h
 ·cases h
theorem Up.le {M M' : Store} (h : Up M M') : M.n ≤ M'.n := Ch.n h
theorem Up.tdx {M M' : Store} (h : Up M M') (bs Ns : List Nat) (i : Nat) : TDx bs Ns i M M' := ⟨h.le, fun b hb => .inl (h.fr b hb)⟩
structure Sl (s : Nat) (e : TypeId) (M : Store) (v : Value) (n : Nat) (cs : List Value) : Prop where
 len : cs.length = n * s
 is : ∃ a c, v = .slice a n c ∧ (∀ x, a = some x → x.spot = none) ∧
  (0 < n → ∃ b o cells e' own, a = some ⟨b, o, none⟩ ∧ M.get b = some (.inl (cells, e', own)) ∧ (own = true → e' = e) ∧ o + n * s ≤ cells.length ∧ (cells.drop o).take (n * s) = cs)
theorem Sl.up {s e M M' v n cs} (h : Sl s e M v n cs) (k : Up M M') : Sl s e M' v n cs := by
 obtain ⟨h1, a, c, h2, h3, h4⟩ := h
 refine ⟨h1, a, c, h2, h3, fun hn => ?_⟩
 obtain ⟨b, o, cells, e', own, h5, h6, h7⟩ := h4 hn
 exact ⟨b, o, cells, e', own, h5, k.get h6, h7⟩
theorem Sl.nil (s e M) : Sl s e M (.slice none 0 0) 0 [] := ⟨by simp, none, 0, rfl, (fun _ h => by cases h), fun h => absurd h (Nat.lt_irrefl 0)⟩
theorem Sl.lenV {s e M v n cs} (h : Sl s e M v n cs) : lenV v = some (.int .i64 (n : Int)) := by
 obtain ⟨_, a, c, rfl, _⟩ := h; rfl
theorem Sl.slice {s e M v n cs} (h : Sl s e M v n cs) : ∃ a c, v = .slice a n c := by
 obtain ⟨_, a, c, rfl, _⟩ := h; exact ⟨_, _, rfl⟩
theorem ia {M : Store} {b o k : Nat} {cells : List Value} {e' : TypeId} {own : Bool} (h : M.get b = some (.inl (cells, e', own))) (hl : o + k ≤ cells.length) : b8 M b o k = some ((cells.drop o).take k) := by
 unfold b8; rw [h]; simp only [if_pos hl]
theorem Sl.at {s e M v n cs} (h : Sl s e M v n cs) {i : Nat} (hi : i < n) (k : IntKind) : ∃ p, ixA s v (.int k (i : Int)) = some p ∧ ∀ agg, ld s agg p M = me agg ((cs.drop (i * s)).take s) := by
 obtain ⟨h1, a, c, rfl, h3, h4⟩ := h
 obtain ⟨b, o, cells, e', own, rfl, h6, h7, h8, h9⟩ := h4 (by omega)
 refine ⟨.pointer (some ⟨b, o + i * s, none⟩), ?_, fun agg => ?_⟩
 ·simp only [ixA]
  rw [if_pos ⟨by omega, by omega, trivial⟩]; simp
 ·simp only [ld]
  have hb : i * s + s ≤ n * s := by
   have := Nat.mul_le_mul_right s (show i + 1 ≤ n by omega)
   rw [Nat.add_mul, Nat.one_mul] at this; exact this
  rw [ia h6 (by omega), Option.bind_some, ← h9, List.drop_take, List.drop_drop, List.take_take]
  congr 2
  omega
theorem gm (b o k : Nat) : (⟨b, o, none⟩ : Addr).add k = ⟨b, o + k, none⟩ := by
 simp only [Addr.add]; split <;> simp [*]
theorem Sl.cut {s e M v n cs} (h : Sl s e M v n cs) {lo hi : Option Value} {l r : Nat} (hhi : ax hi n n = some r) (hlo : ax lo r 0 = some l) (hr : r ≤ n) (hl : l ≤ r) :
    ∃ v', slV s e v lo hi M = some v' ∧ Sl s e M v' (r - l) ((cs.drop (l * s)).take ((r - l) * s)) := by
 obtain ⟨h1, a, c, rfl, h3, h4⟩ := h
 have hlen : ((cs.drop (l * s)).take ((r - l) * s)).length = (r - l) * s := by
  have h5 : l * s + (r - l) * s ≤ n * s := by
   rw [← Nat.add_mul]; exact Nat.mul_le_mul_right s (by omega)
  simp; omega
 simp only [slV, hhi, hlo, Option.bind_some]
 by_cases hn : l = r
 ·subst hn
  simp only [decide_true, Bool.true_or, if_true]
  refine ⟨_, rfl, hlen, _, _, rfl, ?_, fun h => by omega⟩
  intro x hx
  cases a with
  | none => cases hx
  | some y => simp at hx; subst hx; have := h3 y rfl; simp only [Addr.add]; split <;> simp [this]
 ·obtain ⟨b, o, cells, e', own, rfl, h6, h7, h8, h9⟩ := h4 (by omega)
  have hel : bJ M (some ⟨b, o, none⟩) e = true := by
   simp only [bJ, h6]
   cases own with
   | false => rfl
   | true => simp [h7 rfl]
  rw [hel, Bool.or_true, if_pos rfl]
  refine ⟨_, rfl, hlen, _, _, rfl, ?_, fun _ => ⟨b, o + l * s, cells, e', own, by rw [Option.map_some, gm], h6, h7, ?_, ?_⟩⟩
  ·intro x hx; rw [Option.map_some, gm] at hx; injection hx with hx; subst hx; rfl
  ·have h5 : l * s + (r - l) * s ≤ n * s := by
     rw [← Nat.add_mul]; exact Nat.mul_le_mul_right s (by omega)
   omega
  ·have h5 : l * s + (r - l) * s ≤ n * s := by
     rw [← Nat.add_mul]; exact Nat.mul_le_mul_right s (by omega)
   rw [← h9, List.drop_take, List.drop_drop, List.take_take]
   congr 1
   omega
theorem Sl.newV {s e M v n cs} (h : Sl s e M v n cs) : newV s v M = some (n, cs) := by
 obtain ⟨h1, a, c, rfl, h3, h4⟩ := h
 by_cases hn : n = 0
 ·subst hn
  have : cs = [] := List.length_eq_zero_iff.1 (by simpa using h1)
  subst this
  cases a with
  | none => rfl
  | some x => obtain ⟨b, o, sp⟩ := x; have := h3 _ rfl; simp only at this; subst this; rfl
 ·obtain ⟨b, o, cells, e', own, rfl, h6, h7, h8, h9⟩ := h4 (by omega)
  simp only [Go.Ab.newV, if_neg hn]
  rw [ia h6 h8, h9]; rfl
structure Nw (s : Nat) (e : TypeId) (M0 M : Store) (v : Value) (n : Nat) (cs : List Value) : Prop where
 len : cs.length = n * s
 is : (n = 0 ∧ ∃ a, v = .slice a 0 0 ∧ ∀ x, a = some x → x.spot = none) ∨
  ∃ b cells c, v = .slice (some ⟨b, 0, none⟩) n c ∧ M0.n ≤ b ∧ M.get b = some (.inl (cells, e, true)) ∧ n * s ≤ cells.length ∧ cells.take (n * s) = cs ∧ (c = n ∨ c = n + 1)
theorem Nw.sl {s e M0 M v n cs} (h : Nw s e M0 M v n cs) : Sl s e M v n cs := by
 obtain ⟨h1, ⟨rfl, a, rfl, h2⟩ | ⟨b, cells, c, rfl, h2, h3, h4, h5, h6⟩⟩ := h
 ·exact ⟨h1, a, 0, rfl, h2, fun h => by omega⟩
 ·exact ⟨h1, _, c, rfl, fun x hx => by simp at hx; subst hx; rfl, fun _ => ⟨b, 0, cells, e, true, rfl, h3, fun _ => rfl, by omega, by simpa using h5⟩⟩
theorem Nw.up {s e M0 M M' v n cs} (h : Nw s e M0 M v n cs) (k : Up M M') : Nw s e M0 M' v n cs := by
 obtain ⟨h1, h | ⟨b, cells, c, h2, h3, h4, h5⟩⟩ := h
 ·exact ⟨h1, .inl h⟩
 ·exact ⟨h1, .inr ⟨b, cells, c, h2, h3, k.get h4, h5⟩⟩
theorem Nw.base {s e M0 M1 M v n cs} (h : Nw s e M1 M v n cs) (k : M0.n ≤ M1.n) : Nw s e M0 M v n cs := by
 obtain ⟨h1, h | ⟨b, cells, c, h2, h3, h4, h5⟩⟩ := h
 ·exact ⟨h1, .inl h⟩
 ·exact ⟨h1, .inr ⟨b, cells, c, h2, Nat.le_trans k h3, h4, h5⟩⟩
theorem Nw.nil (s e M0 M) : Nw s e M0 M (.slice none 0 0) 0 [] := ⟨by simp, .inl ⟨rfl, none, rfl, fun _ h => by cases h⟩⟩
theorem Nw.lit {s e : Nat} {M0 M : Store} (hu : M0.n ≤ M.n) {n : Nat} {cs : List Value} (hl : cs.length = n * s) : Nw s e M0 (M.push (some (.inl (cs, e, true)))) (.slice (some ⟨M.n, 0, none⟩) n n) n cs :=
 ⟨hl, .inr ⟨M.n, cs, n, rfl, hu, Store.get_push_eq _ _, by omega, by rw [← hl]; simp, .inl rfl⟩⟩
theorem Nw.lit1 {s e : Nat} {M0 M : Store} (hu : M0.n ≤ M.n) {n : Nat} {cs : List Value} (hl : cs.length = n * s) : Nw s e M0 (M.push (some (.inl (cs, e, true)))) (.slice (some ⟨M.n, 0, none⟩) n (n + 1)) n cs :=
 ⟨hl, .inr ⟨M.n, cs, n + 1, rfl, hu, Store.get_push_eq _ _, by omega, by rw [← hl]; simp, .inr rfl⟩⟩
def kil (v : Value) : Option Nat := match v with
 | .slice (some a) n c => if c = n then none else some a.block
 | _ => none
abbrev kl (v : Value) : List Nat := (kil v).toList
theorem Nw.appG2 {s e M0 Mb M v n cs} (hu : Up M0 M) (h0b : M0.n ≤ Mb.n) (hbm : Mb.n ≤ M.n) (h : Nw s e Mb M v n cs) {m : Nat} {ys : List Value} (hm : ys.length = m * s) (hz : n + m ≤ 2 ^ 28) :
    ∃ v' M', appG s e v (m, ys) M = some (v', M') ∧ Up M0 M' ∧ Nw s e Mb M' v' (n + m) (cs ++ ys) ∧ M.n ≤ M'.n ∧ (∀ i, i < M.n → kil v ≠ some i → M'.get i = M.get i) ∧ Ch (kl v) M M' := by
 obtain ⟨h1, hd⟩ := h
 have hlen : (cs ++ ys).length = (n + m) * s := by rw [List.length_append, h1, hm, Nat.add_mul]
 by_cases h0 : m = 0
 ·subst h0
  have hy : ys = [] := List.length_eq_zero_iff.1 (by simpa using hm)
  subst hy
  refine ⟨v, M, ?_, hu, by simpa using (⟨h1, hd⟩ : Nw s e Mb M v n cs), Nat.le_refl _, fun _ _ _ => rfl, Ch.refl _ _⟩
  rcases hd with ⟨rfl, a, rfl, h2⟩ | ⟨b, cells, c, rfl, h2⟩
  ·simp [Go.Ab.appG]
  ·simp [Go.Ab.appG]
 ·have fresh : ∀ M1 : Store, M.n = M1.n → Up M0 M1 → (∀ i, i < M.n → kil v ≠ some i → M1.get i = M.get i) → Ch (kl v) M M1 →
      ∃ v' M', some (Value.slice (some ⟨M.n, 0, none⟩) (n + m) (n + m + 1), M1.push (some (.inl (cs ++ ys, e, true)))) = some (v', M') ∧ Up M0 M' ∧ Nw s e Mb M' v' (n + m) (cs ++ ys) ∧ M.n ≤ M'.n ∧ (∀ i, i < M.n → kil v ≠ some i → M'.get i = M.get i) ∧ Ch (kl v) M M' := by
    intro M1 hn hu1 hg hch
    refine ⟨_, _, rfl, hu1.push' _, ?_, by simp; omega, (fun i hi hb => by rw [Store.get_push_ne _ _ (by omega), hg i hi hb]), hch.up (Up.push _ _)⟩
    rw [hn]
    exact Nw.lit1 (by omega) hlen
  rcases hd with ⟨rfl, a, rfl, h2⟩ | ⟨b, cells, c, rfl, h2, h3, h4, h5, h6⟩
  ·have hc : cs = [] := List.length_eq_zero_iff.1 (by simpa using h1)
   subst hc
   simp only [Go.Ab.appG, if_neg h0, if_pos hz]
   have := fresh M rfl hu (fun _ _ _ => rfl) (Ch.refl _ _)
   cases a with
   | none => simpa [bL] using this
   | some x => obtain ⟨b, o, sp⟩ := x; have h7 := h2 _ rfl; simp only at h7; subst h7; simpa [bL] using this
  ·simp only [Go.Ab.appG, if_neg h0, if_pos hz]
   rcases h6 with rfl | rfl
   ·simp only [bL, if_true]
    by_cases hn : c = 0
    ·subst hn
     have hc : cs = [] := List.length_eq_zero_iff.1 (by simpa using h1)
     subst hc
     have := fresh M rfl hu (fun _ _ _ => rfl) (Ch.refl _ _)
     simpa using this
    ·rw [if_neg hn, ia h3 (by omega)]
     simp only [List.drop_zero, h5, Option.bind_some]
     exact fresh M rfl hu (fun _ _ _ => rfl) (Ch.refl _ _)
   ·simp only [bL]
    rw [if_neg (by omega), if_pos trivial]
    simp only [h3]
    rw [if_pos ⟨trivial, h4, trivial⟩, h5]
    refine fresh (M.set b none) (by simp) (hu.set h3 (Nat.le_trans h0b h2) _) (fun i hi hb => Store.get_set_ne _ _ (fun e => hb ?_)) ?_
    ·simp [kil, e]
    ·have : kl (.slice (some ⟨b, 0, none⟩) n (n + 1)) = [b] := by simp [kl, kil]
     rw [this]; exact Ch.set h3 _
theorem Nw.appG {s e M0 M v n cs} (hu : Up M0 M) (h : Nw s e M0 M v n cs) {m : Nat} {ys : List Value} (hm : ys.length = m * s) (hz : n + m ≤ 2 ^ 28) :
    ∃ v' M', appG s e v (m, ys) M = some (v', M') ∧ Up M0 M' ∧ Nw s e M0 M' v' (n + m) (cs ++ ys) ∧ M.n ≤ M'.n ∧ (∀ i, i < M.n → kil v ≠ some i → M'.get i = M.get i) ∧ Ch (kl v) M M' :=
 Nw.appG2 hu (Nat.le_refl _) hu.le h hm hz
theorem Nw.appV2 {s e M0 Mb M v n cs} (hu : Up M0 M) (h0b : M0.n ≤ Mb.n) (hbm : Mb.n ≤ M.n) (h : Nw s e Mb M v n cs) {e' : TypeId} {x : Value} {m : Nat} {ys : List Value} (hx : Sl s e' M x m ys) (hz : n + m ≤ 2 ^ 28) :
    ∃ v' M', appV s e v x M = some (v', M') ∧ Up M0 M' ∧ Nw s e Mb M' v' (n + m) (cs ++ ys) ∧ M.n ≤ M'.n ∧ (∀ i, i < M.n → kil v ≠ some i → M'.get i = M.get i) ∧ Ch (kl v) M M' := by
 simp only [Go.Ab.appV, hx.newV, Option.bind_some]
 exact h.appG2 hu h0b hbm hx.len hz
theorem Nw.appV {s e M0 M v n cs} (hu : Up M0 M) (h : Nw s e M0 M v n cs) {e' : TypeId} {x : Value} {m : Nat} {ys : List Value} (hx : Sl s e' M x m ys) (hz : n + m ≤ 2 ^ 28) :
    ∃ v' M', appV s e v x M = some (v', M') ∧ Up M0 M' ∧ Nw s e M0 M' v' (n + m) (cs ++ ys) ∧ M.n ≤ M'.n ∧ (∀ i, i < M.n → kil v ≠ some i → M'.get i = M.get i) ∧ Ch (kl v) M M' := by
 simp only [Go.Ab.appV, hx.newV, Option.bind_some]
 exact h.appG hu hx.len hz
def bv (x : UInt8) : Value := .int .u8 (x.toNat : Int)
abbrev By (e : TypeId) (M : Store) (v : Value) (l : List UInt8) : Prop := Sl 1 e M v l.length (l.map bv)
abbrev NB (e : TypeId) (M0 M : Store) (v : Value) (l : List UInt8) : Prop := Nw 1 e M0 M v l.length (l.map bv)
theorem By.at {e M v l} (h : By e M v l) {i : Nat} (hi : i < l.length) (k : IntKind) : ∃ p, ixA 1 v (.int k (i : Int)) = some p ∧ ld 1 false p M = some (bv l[i]) := by
 obtain ⟨p, h1, h2⟩ := Sl.at h hi k
 refine ⟨p, h1, ?_⟩
 rw [h2 false]
 have : ((l.map bv).drop (i * 1)).take 1 = [bv l[i]] := by
  rw [Nat.mul_one, ← List.map_drop, ← List.map_take, List.drop_eq_getElem_cons hi]; rfl
 rw [this]; rfl
theorem By.cut {e M v l} (h : By e M v l) {lo hi : Option Value} {a r : Nat} (hhi : ax hi l.length l.length = some r) (hlo : ax lo r 0 = some a) (hr : r ≤ l.length) (ha : a ≤ r) :
    ∃ v', slV 1 e v lo hi M = some v' ∧ By e M v' ((l.take r).drop a) := by
 obtain ⟨v', h1, h2⟩ := Sl.cut h hhi hlo hr ha
 refine ⟨v', h1, ?_⟩
 have e1 : ((l.take r).drop a).length = r - a := by simp; omega
 have e2 : ((l.map bv).drop (a * 1)).take ((r - a) * 1) = ((l.take r).drop a).map bv := by
  simp only [Nat.mul_one]
  rw [List.map_drop, List.map_take, List.drop_take]
 unfold By
 rw [e1, ← e2]; exact h2
theorem NB.by {e M0 M v l} (h : NB e M0 M v l) : By e M v l := Nw.sl h
theorem NB.app {e M0 M v l} (hu : Up M0 M) (h : NB e M0 M v l) {e' x k} (hx : By e' M x k) (hz : l.length + k.length ≤ 2 ^ 28) :
    ∃ v' M', Go.Ab.appV 1 e v x M = some (v', M') ∧ Up M0 M' ∧ NB e M0 M' v' (l ++ k) ∧ M.n ≤ M'.n ∧ (∀ i, i < M.n → kil v ≠ some i → M'.get i = M.get i) ∧ Ch (kl v) M M' := by
 have := Nw.appV hu h hx hz
 unfold NB
 rw [List.length_append, List.map_append]
 exact this
def Keep (e : TypeId) (M M' : Store) : Prop := M.n ≤ M'.n ∧ ∀ i x, M.get i = some x → (∀ cells, x ≠ .inl (cells, e, true)) → M'.get i = some x
theorem Up.keep {e : TypeId} {M M' : Store} (h : Up M M') : Keep e M M' := ⟨h.le, fun i x hi _ => h.get hi⟩
theorem Keep.trans {e : TypeId} {M M1 M2 : Store} (h : Keep e M M1) (k : Keep e M1 M2) : Keep e M M2 := ⟨Nat.le_trans h.1 k.1, fun i x hi hx => k.2 i x (h.2 i x hi hx) hx⟩
theorem Sl.keep {s e' M M' v n cs} (h : Sl s e' M v n cs) {e : TypeId} (hne : e' ≠ e) (k : Keep e M M') : Sl s e' M' v n cs := by
 obtain ⟨h1, a, c, h2, h3, h4⟩ := h
 refine ⟨h1, a, c, h2, h3, fun hn => ?_⟩
 obtain ⟨b, o, cells, t, own, h5, h6, h7, h8⟩ := h4 hn
 refine ⟨b, o, cells, t, own, h5, k.2 _ _ h6 ?_, h7, h8⟩
 intro cells' he
 injection he with he
 simp only [Prod.mk.injEq] at he
 obtain ⟨_, rfl, rfl⟩ := he
 exact hne (h7 rfl).symm
theorem Nw.keep {s e' M0 M M' v n cs} (h : Nw s e' M0 M v n cs) {e : TypeId} (hne : e' ≠ e) (k : Keep e M M') : Nw s e' M0 M' v n cs := by
 obtain ⟨h1, h | ⟨b, cells, c, h2, h3, h4, h5⟩⟩ := h
 ·exact ⟨h1, .inl h⟩
 ·refine ⟨h1, .inr ⟨b, cells, c, h2, h3, k.2 _ _ h4 ?_, h5⟩⟩
  intro cells' he
  injection he with he
  simp only [Prod.mk.injEq] at he
  exact hne he.2.1
def KeepI (M M' : Store) : Prop := M.n ≤ M'.n ∧ ∀ i x, M.get i = some (.inl x) → M'.get i = some (.inl x)
theorem Up.keepI {M M' : Store} (h : Up M M') : KeepI M M' := ⟨h.le, fun i x hi => h.get hi⟩
theorem KeepI.trans {M M1 M2 : Store} (h : KeepI M M1) (k : KeepI M1 M2) : KeepI M M2 := ⟨Nat.le_trans h.1 k.1, fun i x hi => k.2 i x (h.2 i x hi)⟩
theorem KeepI.setR {M : Store} {b : Nat} {x} (hb : M.get b = some (.inr x)) (o : aJ) : KeepI M (M.set b o) :=
 ⟨by simp, fun i y hi => by rw [Store.get_set_ne _ _ (fun e => by subst e; rw [hb] at hi; injection hi with hi; cases hi), hi]⟩
theorem Sl.keepI {s e M M' v n cs} (h : Sl s e M v n cs) (k : KeepI M M') : Sl s e M' v n cs := by
 obtain ⟨h1, a, c, h2, h3, h4⟩ := h
 refine ⟨h1, a, c, h2, h3, fun hn => ?_⟩
 obtain ⟨b, o, cells, t, own, h5, h6, h7, h8⟩ := h4 hn
 exact ⟨b, o, cells, t, own, h5, k.2 _ _ h6, h7, h8⟩
theorem Nw.keepI {s e M0 M M' v n cs} (h : Nw s e M0 M v n cs) (k : KeepI M M') : Nw s e M0 M' v n cs := by
 obtain ⟨h1, h | ⟨b, cells, c, h2, h3, h4, h5⟩⟩ := h
 ·exact ⟨h1, .inl h⟩
 ·exact ⟨h1, .inr ⟨b, cells, c, h2, h3, k.2 _ _ h4, h5⟩⟩
theorem Sl.chS {s e N N2 v n cs} (h : Sl s e N v n cs) {S : List Nat} (k : Ch S N N2) (hS : ∀ b ∈ S, (∃ cells T, N.get b = some (.inl (cells, T, true)) ∧ e ≠ T) ∨ ∃ r, N.get b = some (.inr r)) : Sl s e N2 v n cs := by
 obtain ⟨h1, a, c, h2, h3, h4⟩ := h
 refine ⟨h1, a, c, h2, h3, fun hn => ?_⟩
 obtain ⟨b, o, cells, t, own, h5, h6, h7, h8⟩ := h4 hn
 refine ⟨b, o, cells, t, own, h5, ?_, h7, h8⟩
 rw [k.get b (N.lt_of_get h6) fun hb => ?_, h6]
 rcases hS b hb with ⟨cells', T, h9, h10⟩ | ⟨r, h9⟩
 ·rw [h9] at h6
  injection h6 with h6
  simp only [Sum.inl.injEq, Prod.mk.injEq] at h6
  obtain ⟨_, rfl, rfl⟩ := h6
  exact h10 (h7 rfl).symm
 ·rw [h9] at h6; injection h6 with h6; cases h6
theorem Ch.at {S : List Nat} {M M' : Store} (h : Ch S M M') {i : Nat} {x} (hi : M.get i = some x) (hn : i ∉ S) : M'.get i = some x := by rw [h.get i (M.lt_of_get hi) hn, hi]
def Ob (M : Store) (b : Nat) (cells : List Value) (T : TypeId) : Prop := M.get b = some (.inl (cells, T, true))
theorem Ob.ld {M b cells T} (h : Ob M b cells T) {o : Nat} {v : Value} (hv : cells[o]? = some v) : Go.Ab.ld 1 false (.pointer (some ⟨b, o, none⟩)) M = some v := by
 obtain ⟨hl, hv⟩ := List.getElem?_eq_some_iff.1 hv
 simp only [Go.Ab.ld]
 rw [ia h (by omega), Option.bind_some, List.drop_eq_getElem_cons hl, hv]; rfl
theorem Ob.ldA {M b cells T} (h : Ob M b cells T) {s : Nat} (hs : cells.length = s) : Go.Ab.ld s true (.pointer (some ⟨b, 0, none⟩)) M = some (.agg cells.toArray) := by
 simp only [Go.Ab.ld]
 rw [ia h (by omega), Option.bind_some, List.drop_zero, List.take_of_length_le (by omega)]; rfl
theorem qh (c : List Value) (o : Nat) (v : Value) (h : o < c.length) : aS c o [v] = c.set o v := by
 simp only [aS, List.length_singleton]
 rw [List.set_eq_take_append_cons_drop, if_pos h]; simp
theorem Ob.st {M b cells T} (h : Ob M b cells T) {o : Nat} {v : Value} (ho : o < cells.length) (h1 : v.cells = #[v]) (h2 : v.oneCell' = true) :
    Go.Ab.st 1 (.pointer (some ⟨b, o, none⟩)) v M = some (M.set b (some (.inl (cells.set o v, T, true)))) := by
 simp only [Go.Ab.st]
 rw [show M.get b = some (.inl (cells, T, true)) from h]
 simp only [h1]
 rw [if_pos ⟨rfl, by show o + 1 ≤ cells.length; omega, by simp [h2]⟩]
 rw [qh _ _ _ ho]
theorem Ob.setSt {M b cells T} (h : Ob M b cells T) (c' : List Value) : Ob (M.set b (some (.inl (c', T, true)))) b c' T := Store.get_set_eq _ _ h
theorem Ob.up {M M' b cells T} (h : Ob M b cells T) (k : Up M M') : Ob M' b cells T := k.get h
theorem Ob.new (M : Store) (cells : List Value) (T : TypeId) : Ob (M.push (some (.inl (cells, T, true)))) M.n cells T := Store.get_push_eq _ _
theorem Ob.keepI {M M' b cells T} (h : Ob M b cells T) (k : KeepI M M') : Ob M' b cells T := k.2 _ _ h
theorem Ob.same {M M' : Store} {b : Nat} {cells : List Value} {T : TypeId} (h : Ob M b cells T) (k : M'.get b = M.get b) : Ob M' b cells T := by unfold Ob; rw [k]; exact h
theorem Ob.lt {M b cells T} (h : Ob M b cells T) : b < M.n := M.lt_of_get h
theorem Ob.keep {M b cells T} (h : Ob M b cells T) {e : TypeId} (hne : T ≠ e) {M' : Store} (k : Keep e M M') : Ob M' b cells T := k.2 _ _ h fun _ he => hne (by injection he with he; simp only [Prod.mk.injEq] at he; exact he.2.1)
theorem Ch.keepT {M M' : Store} {b : Nat} {cells : List Value} {T : TypeId} (h : Ch [b] M M') (hb : Ob M b cells T) : Keep T M M' :=
 ⟨h.n, fun i x hi hx => by
  by_cases e : i = b
  ·subst e; rw [show M.get i = some (.inl (cells, T, true)) from hb] at hi; injection hi with hi; exact absurd hi.symm (hx cells)
  ·rw [h.get i (M.lt_of_get hi) (by simpa using e), hi]⟩
theorem Ch.setO {M : Store} {b : Nat} {cells : List Value} {T : TypeId} (hb : Ob M b cells T) (o : aJ) : Ch [b] M (M.set b o) := Ch.set hb o
theorem w64 {x : Int} (h1 : -9223372036854775808 ≤ x) (h2 : x ≤ 9223372036854775807) : IntKind.wrap .i64 x = x := by
 simp [IntKind.wrap, IntKind.bits, IntKind.signed]
 omega
theorem jG (v : Value) (M : Store) (k : Value → Store → Prop) : LT v M k = k v M := rfl
theorem ag (p : Prop) [Decidable p] (A B : Prop) : BR (.bool (decide p)) A B = if p then A else B := by
 by_cases h : p <;> simp [BR, h]
theorem bl (b : Bool) (A B : Prop) : BR (.bool b) A B = if b = true then A else B := by cases b <;> rfl
theorem sn (k : IntKind) (a b : Int) (K : Value → Prop) : OP (ab .add (.int k a) (.int k b)) K = K (.int k (k.wrap (a + b))) := by cases k <;> rfl
theorem lf (k : IntKind) (a b : Int) (K : Value → Prop) : OP (ab .sub (.int k a) (.int k b)) K = K (.int k (k.wrap (a - b))) := by cases k <;> rfl
theorem su (k : IntKind) (a b : Int) (K : Value → Prop) : OP (ab .mul (.int k a) (.int k b)) K = K (.int k (k.wrap (a * b))) := by cases k <;> rfl
theorem fB (k : IntKind) (a b : Int) (K : Value → Prop) : OP (ab .lss (.int k a) (.int k b)) K = K (.bool (decide (a < b))) := by cases k <;> rfl
theorem pV (k : IntKind) (a b : Int) (K : Value → Prop) : OP (ab .leq (.int k a) (.int k b)) K = K (.bool (decide (a ≤ b))) := by cases k <;> rfl
theorem pU (k : IntKind) (a b : Int) (K : Value → Prop) : OP (ab .gtr (.int k a) (.int k b)) K = K (.bool (decide (a > b))) := by cases k <;> rfl
theorem iA (k : IntKind) (a b : Int) (K : Value → Prop) : OP (ab .geq (.int k a) (.int k b)) K = K (.bool (decide (a ≥ b))) := by cases k <;> rfl
theorem dG (k : IntKind) (a b : Int) (K : Value → Prop) : OP (ab .eql (.int k a) (.int k b)) K = K (.bool (decide (a = b))) := by cases k <;> rfl
theorem sy (k : IntKind) (a b : Int) (K : Value → Prop) : OP (ab .neq (.int k a) (.int k b)) K = K (.bool (decide (a ≠ b))) := by
 have : (a != b) = decide (a ≠ b) := by by_cases h : a = b <;> simp [h]
 cases k <;> simp [OP, ab, this]
theorem bE (b : Bool) (K : Value → Prop) : OP (aun .not (.bool b)) K = K (.bool (!b)) := rfl
theorem pT (k j : IntKind) (n : Int) (K : Value → Prop) : OP (cvI k (.int j n)) K = K (.int k (k.wrap n)) := rfl
theorem iB (k j : IntKind) (a b : Int) (K : Value → Prop) : OP (dE (.int k a) (.int j b)) K = K (.int k (if b < a then b else a)) := rfl
theorem lc (k j : IntKind) (a b : Int) (K : Value → Prop) : OP (dD (.int k a) (.int j b)) K = K (.int k (if b > a then b else a)) := rfl
theorem hF (a : Option Addr) (n c : Nat) (K : Value → Prop) : OP (lenV (.slice a n c)) K = K (.int .i64 n) := rfl
theorem tW (a : Addr) (K : Value → Prop) : OP (aW (.pointer (some a))) K = K (.pointer (some a)) := rfl
theorem sr (f b o : Nat) (K : Value → Prop) : OP (fad f (.pointer (some ⟨b, o, none⟩))) K = K (.pointer (some ⟨b, o + f, none⟩)) := rfl
theorem tV (z : Value) (K : List Value → Prop) : OP (bd z 1 0 []) K = K [] := by kernel_rfl
theorem qN (z : Value) (k : IntKind) (n : Int) (K : List Value → Prop) : OP (bd z 1 1 [(0, .int k n)]) K = K [.int k n] := by kernel_rfl
theorem rj {P : Program} {t e : TypeId} {cst : Bool} (h : P.underlying t = some (.slice e)) (a : Option Addr) (n c : Nat) (K : Value → Prop) : OP (dv P cst .eql t (.slice a n c) (.slice none 0 0)) K = K (.bool a.isNone) := by
 cases a <;> simp [dv, aeq, h, OP]
theorem uH {k j : IntKind} {a b : Int} (h : 0 ≤ b) (K : Value → Prop) : OP (ab .shr (.int k a) (.int j b)) K = K (.int k (a.fdiv (2 ^ (min b.toNat k.bits)))) := by
 simp only [ab]; rw [if_neg (by omega)]; rfl
theorem ev : (∀ (α : Type) (v : α) (k : α → Prop), OP (some v) k = k v) ∧ (∀ v M k, OP2 (some (v, M)) k = k v M) ∧ (∀ v M k, LT v M k = k v M) ∧ (∀ A B, BR (.bool true) A B = A) ∧ (∀ A B, BR (.bool false) A B = B) ∧
    (∀ (p : Prop) [Decidable p] A B, BR (.bool (decide p)) A B = if p then A else B) ∧
    (∀ k a b K, OP (ab .add (.int k a) (.int k b)) K = K (.int k (k.wrap (a + b)))) ∧ (∀ k a b K, OP (ab .sub (.int k a) (.int k b)) K = K (.int k (k.wrap (a - b)))) ∧ (∀ k a b K, OP (ab .mul (.int k a) (.int k b)) K = K (.int k (k.wrap (a * b)))) ∧
    (∀ k a b K, OP (ab .lss (.int k a) (.int k b)) K = K (.bool (decide (a < b)))) ∧ (∀ k a b K, OP (ab .leq (.int k a) (.int k b)) K = K (.bool (decide (a ≤ b)))) ∧ (∀ k a b K, OP (ab .gtr (.int k a) (.int k b)) K = K (.bool (decide (a > b)))) ∧
    (∀ k a b K, OP (ab .geq (.int k a) (.int k b)) K = K (.bool (decide (a ≥ b)))) ∧ (∀ k a b K, OP (ab .eql (.int k a) (.int k b)) K = K (.bool (decide (a = b)))) ∧ (∀ k a b K, OP (ab .neq (.int k a) (.int k b)) K = K (.bool (decide (a ≠ b)))) ∧
    (∀ b K, OP (aun .not (.bool b)) K = K (.bool (!b))) ∧ (∀ k j n K, OP (cvI k (.int j n)) K = K (.int k (k.wrap n))) ∧ (∀ k j a b K, OP (dE (.int k a) (.int j b)) K = K (.int k (if b < a then b else a))) ∧ (∀ k j a b K, OP (dD (.int k a) (.int j b)) K = K (.int k (if b > a then b else a))) ∧
    (∀ a n c K, OP (lenV (.slice a n c)) K = K (.int .i64 (n : Int))) ∧ (∀ a K, OP (aW (.pointer (some a))) K = K (.pointer (some a))) ∧ (∀ f b o K, OP (fad f (.pointer (some ⟨b, o, none⟩))) K = K (.pointer (some ⟨b, o + f, none⟩))) ∧
    (∀ z K, OP (bd z 1 0 []) K = K []) ∧ (∀ z k n K, OP (bd z 1 1 [(0, .int k n)]) K = K [.int k n]) :=
 ⟨fun _ _ _ => rfl, fun _ _ _ => rfl, fun _ _ _ => rfl, fun _ _ => rfl, fun _ _ => rfl, fun p _ A B => ag p A B, sn, lf, su, fB, pV, pU, iA, dG, sy, bE, pT, iB, lc, hF, tW, sr, tV, qN⟩
end Go.Ab

set_option linter.unusedVariables false
set_option linter.unusedSimpArgs false
namespace Go.Ab
def bx (v : Value) : Option Nat := match v with
 | .slice (some a) _ _ => some a.block
 | _ => none
theorem mD {v : Value} {b : Nat} (h : kil v = some b) : bx v = some b := by
 unfold kil at h
 split at h
 ·split at h
  ·cases h
  ·injection h with h; subst h; rfl
 ·cases h
theorem qW {v : Value} {b : Nat} : b ∈ kl v ↔ kil v = some b := by
 unfold kl
 cases kil v with
 | none => simp
 | some c => simp [eq_comm]
theorem Sl.fr {s e M M' v n cs} (h : Sl s e M v n cs) {S : List Nat} (k : Ch S M M') (hS : ∀ b, bx v = some b → b ∉ S) : Sl s e M' v n cs := by
 obtain ⟨h1, a, c, rfl, h3, h4⟩ := h
 refine ⟨h1, a, c, rfl, h3, fun hn => ?_⟩
 obtain ⟨b, o, cells, e', own, rfl, h6, h7⟩ := h4 hn
 exact ⟨b, o, cells, e', own, rfl, k.at h6 (hS _ rfl), h7⟩
theorem Nw.fr {s e M0 M M' v n cs} (h : Nw s e M0 M v n cs) {S : List Nat} (k : Ch S M M') (hS : ∀ b, bx v = some b → b ∉ S) : Nw s e M0 M' v n cs := by
 obtain ⟨h1, h | ⟨b, cells, c, rfl, h2, h3, h4⟩⟩ := h
 ·exact ⟨h1, .inl h⟩
 ·exact ⟨h1, .inr ⟨b, cells, c, rfl, h2, k.at h3 (hS _ rfl), h4⟩⟩
theorem Ob.fr {M M' b cells T} (h : Ob M b cells T) {S : List Nat} (k : Ch S M M') (hS : b ∉ S) : Ob M' b cells T := k.at h hS
theorem Nw.bx_in {s e M0 M v n cs} (h : Nw s e M0 M v n cs) {b : Nat} (hb : kil v = some b) : M0.n ≤ b ∧ b < M.n := by
 obtain ⟨h1, ⟨rfl, a, rfl, _⟩ | ⟨b', cells, c, rfl, h2, h3, h4⟩⟩ := h
 ·cases a <;> simp [kil] at hb
 ·have := mD hb
  simp only [bx, Option.some.injEq] at this
  subst this
  exact ⟨h2, M.lt_of_get h3⟩
theorem Ch.sub {S S' : List Nat} {M M' : Store} (h : Ch S M M') (hs : ∀ b ∈ S, b ∈ S') : Ch S' M M' := h.mono hs
def Mzz : Store := ⟨0, [], []⟩
theorem Up.zero (M : Store) : Up Mzz M := ⟨Nat.zero_le _, fun i hi => absurd hi (Nat.not_lt_zero i), M.log, by simp [Mzz], fun b _ => .inl (Nat.zero_le b)⟩
section
variable {α : Type} (En : α → Value)
abbrev LV (e : TypeId) (M : Store) (v : Value) (xs : List α) : Prop := Sl 1 e M v xs.length (xs.map En)
abbrev NV (e : TypeId) (M0 M : Store) (v : Value) (xs : List α) : Prop := Nw 1 e M0 M v xs.length (xs.map En)
end
section
variable {α : Type} {En : α → Value} {e : TypeId} {M M0 M' : Store} {v : Value} {xs : List α}
theorem LV.at (h : LV En e M v xs) {i : Nat} (hi : i < xs.length) (k : IntKind) : ∃ p, ixA 1 v (.int k (i : Int)) = some p ∧ ld 1 false p M = some (En xs[i]) := by
 obtain ⟨p, h1, h2⟩ := Sl.at h hi k
 refine ⟨p, h1, ?_⟩
 rw [h2]
 have : ((xs.map En).drop (i * 1)).take 1 = [En xs[i]] := by
  rw [Nat.mul_one, List.drop_eq_getElem_cons (by simpa using hi)]; simp
 rw [this]; rfl
theorem LV.cut (h : LV En e M v xs) {lo hi : Option Value} {a r : Nat} (hhi : ax hi xs.length xs.length = some r) (hlo : ax lo r 0 = some a) (hr : r ≤ xs.length) (ha : a ≤ r) :
    ∃ v', slV 1 e v lo hi M = some v' ∧ LV En e M v' ((xs.take r).drop a) := by
 obtain ⟨v', h1, h2⟩ := Sl.cut h hhi hlo hr ha
 refine ⟨v', h1, ?_⟩
 have e1 : ((xs.take r).drop a).length = r - a := by simp; omega
 have e2 : ((xs.take r).drop a).map En = ((xs.map En).drop (a * 1)).take ((r - a) * 1) := by
  rw [List.map_drop, List.map_take, Nat.mul_one, Nat.mul_one, List.drop_take]
 unfold LV
 rw [e1, e2]; exact h2
theorem NV.lv (h : NV En e M0 M v xs) : LV En e M v xs := Nw.sl h
theorem NV.nil : NV En e M0 M (.slice none 0 0) ([] : List α) := Nw.nil _ _ _ _
theorem qE {base : Option Addr} {n cap s : Nat} {e : TypeId} {m : Nat} {ys : List Value} {M M' : Store} {v' : Value} (h : bL base n cap s e m ys M = some (v', M')) : v' = .slice (some ⟨M.n, 0, none⟩) (n + m) (n + m + 1) ∧ M.n < M'.n := by
 unfold bL at h
 split at h
 ·split at h
  ·injection h with h; injection h with h1 h2; subst h2; exact ⟨h1.symm, by simp⟩
  ·cases h
 ·split at h
  ·split at h
   ·injection h with h; injection h with h1 h2; subst h2; exact ⟨h1.symm, by simp⟩
   ·obtain ⟨old, _, h⟩ := Option.bind_eq_some_iff.1 h
    injection h with h; injection h with h1 h2; subst h2; exact ⟨h1.symm, by simp⟩
  ·split at h
   ·split at h
    ·split at h
     ·injection h with h; injection h with h1 h2; subst h2; exact ⟨h1.symm, by simp⟩
     ·cases h
    ·cases h
   ·cases h
 ·cases h
theorem rx {s : Nat} {e e' : TypeId} {a : Option Addr} {n c : Nat} {x : Value} {m : Nat} {ys : List Value} {M M' : Store} {v' : Value} (hx : Sl s e' M x m ys) (hm : 0 < m) (h : Go.Ab.appV s e (.slice a n c) x M = some (v', M')) : bx v' = some M.n ∧ M.n < M'.n := by
 simp only [Go.Ab.appV, hx.newV, Option.bind_some, Go.Ab.appG, if_neg (show ¬ m = 0 by omega)] at h
 split at h
 ·obtain ⟨h1, h2⟩ := qE h
  subst h1; exact ⟨rfl, h2⟩
 ·cases h
theorem NV.app1 {Mb : Store} (hu : Up M0 M) (h0b : M0.n ≤ Mb.n) (hbm : Mb.n ≤ M.n) (h : NV En e Mb M v xs) (x : α) {w : Value} (hw : w = En x) (hz : xs.length + 1 ≤ 2 ^ 28) {K : Value → Store → Prop}
    (hK : ∀ v' M', Up M0 M' → NV En e Mb M' v' (xs ++ [x]) → Ch (kl v) M M' → (∃ b, bx v' = some b ∧ M.n ≤ b ∧ b < M'.n) → K v' M') :
    OP2 (appV 1 e v (.slice (some ⟨M.n, 0, none⟩) 1 1) (M.push (some (.inl ([w], e, true))))) K := by
 subst hw
 have hx : Sl 1 e (M.push (some (.inl ([En x], e, true)))) (.slice (some ⟨M.n, 0, none⟩) 1 1) 1 [En x] := (Nw.lit (M0 := M) (n := 1) (Nat.le_refl _) rfl).sl
 have hup := Up.push M (some (.inl ([En x], e, true)))
 obtain ⟨v', M', e1, hu', hN, hn, hf, hc⟩ := Nw.appV2 (hu.trans hup) h0b (by simp; omega) (Nw.up h hup) hx (by simpa using hz)
 rw [e1, ie]
 obtain ⟨a, c, rfl⟩ := h.sl.slice
 obtain ⟨hb1, hb2⟩ := rx hx (by omega) e1
 refine hK v' M' hu' ?_ (Ch.trans' (Up.any hup) hc ?_) ⟨_, hb1, by simp, hb2⟩
 ·simpa [NV] using hN
 ·intro b hb; exact .inl hb
theorem LV.up (h : LV En e M v xs) (k : Up M M') : LV En e M' v xs := Sl.up h k
theorem LV.len (h : LV En e M v xs) : lenV v = some (.int .i64 (xs.length : Int)) := Sl.lenV h
end
theorem Nw.put1 {e Mb M v n cs} (h : Nw 1 e Mb M v n cs) {i : Nat} (hi : i < n) (k : IntKind) {w : Value} (h1 : w.cells = #[w]) (h2 : w.oneCell' = true) :
    ∃ p M' b, ixA 1 v (.int k (i : Int)) = some p ∧ ld 1 false p M = some (cs.getD i undef) ∧ st 1 p w M = some M' ∧ Nw 1 e Mb M' v n (cs.set i w) ∧ bx v = some b ∧ Mb.n ≤ b ∧ b < M.n ∧ Ch [b] M M' := by
 have hlen := h.len
 rw [Nat.mul_one] at hlen
 obtain ⟨q, eq, eld⟩ := Sl.at h.sl hi k
 obtain ⟨h0, ⟨h3, _⟩ | ⟨b, cells, c, rfl, h3, h4, h5, h6, h7⟩⟩ := h
 ·omega
 ·have hob : Ob M b cells e := h4
  rw [Nat.mul_one] at h5 h6
  have eq' : ixA 1 (.slice (some ⟨b, 0, none⟩) n c) (.int k (i : Int)) = some (.pointer (some ⟨b, 0 + i * 1, none⟩)) := by
   simp only [ixA]; rw [if_pos ⟨by omega, by omega, trivial⟩]; simp
  rw [eq'] at eq; injection eq with eq; subst eq
  refine ⟨.pointer (some ⟨b, 0 + i * 1, none⟩), M.set b (some (.inl (cells.set i w, e, true))), b, eq', ?_, ?_, ⟨by simp; omega, .inr ⟨b, cells.set i w, c, rfl, h3, hob.setSt _, by rw [List.length_set]; omega, by rw [Nat.mul_one, List.take_set, h6], h7⟩⟩, rfl, h3, M.lt_of_get h4, Ch.setO hob _⟩
  ·rw [eld]
   rw [Nat.mul_one, List.drop_eq_getElem_cons (by omega)]
   simp only [List.take_succ_cons, List.take_zero, me, cond_false]
   rw [List.getD_eq_getElem?_getD, List.getElem?_eq_getElem (by omega)]; rfl
  ·rw [show 0 + i * 1 = i by omega]; exact hob.st (by omega) h1 h2
theorem qp {z : Value} (h : z.cells = #[z]) (n : Nat) : fj z n = List.replicate n z := by
 unfold fj; rw [h]
theorem ue {α : Type} {En : α → Value} {e : TypeId} {by_ n : Nat} {z : Value} {x0 : α} (hz : z.cells = #[z]) (hx : En x0 = z) (hn : n ≤ 2 ^ 30) (hby : by_ ≤ 2 ^ 10) {M : Store} {K : Value → Store → Prop}
    (hK : ∀ v M', Up M M' → NV En e M M' v (List.replicate n x0) → bx v = some M.n → K v M') : OP2 (mkS z 1 by_ e (.int .i64 (n : Int)) (.int .i64 (n : Int)) M) K := by
 have hb : by_ * n ≤ 2 ^ 40 := by
  have := Nat.mul_le_mul hby hn
  omega
 simp only [mkS]
 rw [if_pos ⟨by omega, by omega, by omega, by norm_cast⟩, ie]
 simp only [Int.toNat_natCast, Nat.mul_one, qp hz, if_true]
 refine hK _ _ (Up.push _ _) ?_ rfl
 have : NV En e M (M.push (some (.inl (List.replicate n z, e, true)))) (.slice (some ⟨M.n, 0, none⟩) n n) (List.replicate n x0) := by
  have h := Nw.lit (s := 1) (e := e) (M0 := M) (M := M) (Nat.le_refl _) (n := n) (cs := List.replicate n z) (by simp)
  simpa [NV, hx] using h
 exact this
theorem Ob.stA {M b cells T s} (h : Ob M b cells T) (h1 : cells.length = s) {vs : List Value} (h2 : vs.length = s) (h3 : vs.all (·.oneCell') = true) :
    Go.Ab.st s (.pointer (some ⟨b, 0, none⟩)) (.agg vs.toArray) M = some (M.set b (some (.inl (vs, T, true)))) := by
 simp only [Go.Ab.st]
 rw [show M.get b = some (.inl (cells, T, true)) from h]
 dsimp only
 rw [if_pos (show s = (Value.agg vs.toArray).cells.size ∧ 0 + (Value.agg vs.toArray).cells.size ≤ cells.length ∧ (Value.agg vs.toArray).cells.all (·.oneCell') = true from
  ⟨show s = vs.toArray.size by simp [h2], show 0 + vs.toArray.size ≤ cells.length by simp; omega, show vs.toArray.all (·.oneCell') = true by simpa using h3⟩)]
 have : aS cells 0 (Value.agg vs.toArray).cells.toList = vs := by
  show aS cells 0 vs.toArray.toList = vs
  simp only [aS, List.take_zero, List.nil_append, Nat.zero_add]
  rw [List.drop_of_length_le (show cells.length ≤ vs.length by omega), List.append_nil]
 rw [this]
theorem qT {b len : Nat} {i : Nat} (hi : i < len) (k : IntKind) : ixP 1 len (.pointer (some ⟨b, 0, none⟩)) (.int k (i : Int)) = some (.pointer (some ⟨b, i, none⟩)) := by
 simp only [ixP]; rw [if_pos ⟨by omega, by omega, trivial⟩]; simp
structure kg {α : Type} [DecidableEq α] (kd : TypeDesc) (En : α → Value) : Prop where
 key : ∀ x, aV kd (En x) = true
 eq : ∀ x y, eK (En x) (En y) = decide (x = y)
section
variable {α : Type} [DecidableEq α]
def fnd (k : α) : List (α × Value) → Option Value
 | [] => none
 | (q, v) :: r => if k = q then some v else fnd k r
def Mp (En : α → Value) (M : Store) (b : Nat) (f : α → Option Value) : Prop := ∃ kvs : List (α × Value), M.get b = some (.inr (.inl (kvs.map fun p => (En p.1, p.2)))) ∧ ∀ k, fnd k kvs = f k
theorem Mp.up {En : α → Value} {M M' : Store} {b : Nat} {f : α → Option Value} (h : Mp En M b f) (k : Up M M') : Mp En M' b f := by
 obtain ⟨kvs, h1, h2⟩ := h; exact ⟨kvs, k.get h1, h2⟩
theorem Mp.fr {En : α → Value} {M M' : Store} {b : Nat} {f : α → Option Value} (h : Mp En M b f) {S : List Nat} (k : Ch S M M') (hS : b ∉ S) : Mp En M' b f := by
 obtain ⟨kvs, h1, h2⟩ := h; exact ⟨kvs, k.at h1 hS, h2⟩
theorem Mp.keep {En : α → Value} {M M' : Store} {b : Nat} {f : α → Option Value} (h : Mp En M b f) {e : TypeId} (k : Keep e M M') : Mp En M' b f := by
 obtain ⟨kvs, h1, h2⟩ := h; exact ⟨kvs, k.2 _ _ h1 (fun cells he => by cases he), h2⟩
theorem Mp.new {En : α → Value} (M : Store) : Mp En (M.push (some (.inr (.inl [])))) M.n fun _ => none := ⟨[], Store.get_push_eq _ _, fun _ => rfl⟩
theorem Mp.lt {En : α → Value} {M : Store} {b : Nat} {f : α → Option Value} (h : Mp En M b f) : b < M.n := by
 obtain ⟨kvs, h1, _⟩ := h; exact M.lt_of_get h1
theorem dT {kd : TypeDesc} {En : α → Value} (hE : kg kd En) (k : α) : ∀ (kvs : List (α × Value)) (i : Nat), (aH (En k) (kvs.map fun p => (En p.1, p.2)) i).map (·.2) = fnd k kvs
 | [], i => rfl
 | (q, v) :: r, i => by
  simp only [List.map_cons, aH, hE.eq, fnd]
  by_cases h : k = q
  ·simp [h]
  ·simp only [h, decide_false, if_false]
   exact dT hE k r (i + 1)
theorem f5 {kd : TypeDesc} {En : α → Value} (hE : kg kd En) (kvs : List (α × Value)) : ((kvs.map fun p => (En p.1, p.2)).all fun e => aV kd e.1) = true := by
 rw [List.all_eq_true]
 intro x hx
 obtain ⟨p, _, rfl⟩ := List.mem_map.1 hx
 exact hE.key _
theorem Mp.look {kd : TypeDesc} {En : α → Value} (hE : kg kd En) {M : Store} {b : Nat} {f : α → Option Value} (h : Mp En M b f) (z : Value) (k : α) :
    lku kd z (.map (some b)) (En k) true M = some (.tuple #[(f k).getD z, .bool (f k).isSome]) := by
 obtain ⟨kvs, h1, h2⟩ := h
 unfold lku
 rw [hE.key]
 simp only [Bool.not_true, Bool.false_eq_true, if_false, h1, Option.bind_some, f5 hE, if_true]
 rw [← h2 k, ← dT hE k kvs 0]
 cases aH (En k) (kvs.map fun p => (En p.1, p.2)) 0 with
 | none => rfl
 | some p => rfl
theorem Mp.look1 {kd : TypeDesc} {En : α → Value} (hE : kg kd En) {M : Store} {b : Nat} {f : α → Option Value} (h : Mp En M b f) (z : Value) (k : α) :
    lku kd z (.map (some b)) (En k) false M = some ((f k).getD z) := by
 obtain ⟨kvs, h1, h2⟩ := h
 unfold lku
 rw [hE.key]
 simp only [Bool.not_true, Bool.false_eq_true, if_false, h1, Option.bind_some, f5 hE]
 rw [← h2 k, ← dT hE k kvs 0]
 cases aH (En k) (kvs.map fun p => (En p.1, p.2)) 0 with
 | none => rfl
 | some p => rfl
theorem kY {kd : TypeDesc} {En : α → Value} (hE : kg kd En) (k : α) (v' : Value) : ∀ (kvs : List (α × Value)) (i j : Nat) (w : Value), aH (En k) (kvs.map fun p => (En p.1, p.2)) i = some (j, w) →
    ∃ kvs', (kvs.map fun p => (En p.1, p.2)).set (j - i) (En k, v') = (kvs'.map fun p => (En p.1, p.2)) ∧ i ≤ j ∧ ∀ q, fnd q kvs' = if q = k then some v' else fnd q kvs
 | [], i, j, w, h => by cases h
 | (q, v) :: r, i, j, w, h => by
  simp only [List.map_cons, aH, hE.eq] at h
  by_cases hk : k = q
  ·simp only [hk, decide_true, if_true, Option.some.injEq, Prod.mk.injEq] at h
   obtain ⟨rfl, rfl⟩ := h
   subst hk
   refine ⟨(k, v') :: r, by simp, Nat.le_refl _, fun q => ?_⟩
   simp only [fnd]
   split <;> rfl
  ·simp only [hk, decide_false] at h
   obtain ⟨kvs', h1, h2, h3⟩ := kY hE k v' r (i + 1) j w h
   refine ⟨(q, v) :: kvs', ?_, by omega, fun q' => ?_⟩
   ·rw [show j - i = (j - (i + 1)) + 1 by omega]
    simp only [List.map_cons, List.set_cons_succ, h1]
   ·simp only [fnd, h3]
    split
    ·rename_i h4; subst h4; rw [if_neg (fun h => hk h.symm)]
    ·rfl
theorem nW (k : α) (v : Value) : ∀ (kvs : List (α × Value)) (q : α), fnd q (kvs ++ [(k, v)]) = match fnd q kvs with
    | some w => some w
    | none => if q = k then some v else none
 | [], q => rfl
 | (q', v') :: r, q => by
  simp only [List.cons_append, fnd]
  split
  ·rfl
  ·exact nW k v r q
theorem Mp.put {kd : TypeDesc} {En : α → Value} (hE : kg kd En) {M : Store} {b : Nat} {f : α → Option Value} (h : Mp En M b f) (k : α) {v : Value} (hv : v.cells.all (·.oneCell') = true) :
    ∃ M', mup kd (.map (some b)) (En k) v M = some M' ∧ Mp En M' b (fun q => if q = k then some v else f q) ∧ Ch [b] M M' ∧ KeepI M M' := by
 obtain ⟨kvs, h1, h2⟩ := h
 simp only [mup, hE.key, hv, Bool.not_true, Bool.false_eq_true, if_false, h1, f5 hE]
 cases ha : aH (En k) (kvs.map fun p => (En p.1, p.2)) 0 with
 | none =>
  refine ⟨_, rfl, ⟨kvs ++ [(k, v)], ?_, fun q => ?_⟩, Ch.set h1 _, KeepI.setR h1 _⟩
  ·rw [Store.get_set_eq _ _ h1]; simp
  ·rw [nW, h2]
   have hn : f k = none := by rw [← h2 k, ← dT hE k kvs 0, ha]; rfl
   by_cases hq : q = k
   ·subst hq; simp only [hn, if_true]
   ·simp only [if_neg hq]; cases f q <;> rfl
 | some p =>
  obtain ⟨j, w⟩ := p
  obtain ⟨kvs', h3, _, h4⟩ := kY hE k v kvs 0 j w ha
  refine ⟨_, rfl, ⟨kvs', ?_, fun q => ?_⟩, Ch.set h1 _, KeepI.setR h1 _⟩
  ·rw [Store.get_set_eq _ _ h1]; simp only [Nat.sub_zero] at h3; rw [h3]
  ·rw [h4, h2]
end
theorem Nw.kl_inl {s e M0 M v n cs} (h : Nw s e M0 M v n cs) {b : Nat} (hb : b ∈ kl v) : ∃ cells, M.get b = some (.inl (cells, e, true)) := by
 have hk := qW.1 hb
 obtain ⟨h1, ⟨rfl, a, rfl, _⟩ | ⟨b', cells, c, rfl, h2, h3, h4⟩⟩ := h
 ·cases a <;> simp [kil] at hk
 ·have := mD hk
  simp only [bx, Option.some.injEq] at this
  subst this
  exact ⟨cells, h3⟩
theorem Mp.app {α : Type} [DecidableEq α] {En : α → Value} {M M' : Store} {b : Nat} {f : α → Option Value} (h : Mp En M b f) {s e M0 v n cs} (hv : Nw s e M0 M v n cs) (k : Ch (kl v) M M') : Mp En M' b f := by
 refine h.fr k fun hb => ?_
 obtain ⟨kvs, h1, _⟩ := h
 obtain ⟨cells, h2⟩ := hv.kl_inl hb
 rw [h1] at h2; injection h2 with h2; cases h2
theorem Nw.keepE {s e M0 M v n cs} (h : Nw s e M0 M v n cs) {M' : Store} (k : Ch (kl v) M M') : Keep e M M' :=
 ⟨k.n, fun i x hi hx => by
  refine k.at hi fun hm => ?_
  obtain ⟨cells, h2⟩ := h.kl_inl hm
  rw [h2] at hi; injection hi with hi
  exact hx cells hi.symm⟩
theorem uw (A B C : Prop) : BR3 (.bool true) A B C = A := rfl
theorem sf (A B C : Prop) : BR3 (.bool false) A B C = B := rfl
theorem uN (a b : Value) : tup (.tuple #[a, b]) 0 = some a := rfl
theorem uO (a b : Value) : tup (.tuple #[a, b]) 1 = some b := rfl
theorem nf (a b c : Value) : tup (.tuple #[a, b, c]) 0 = some a := rfl
theorem ng (a b c : Value) : tup (.tuple #[a, b, c]) 1 = some b := rfl
theorem nh (a b c : Value) : tup (.tuple #[a, b, c]) 2 = some c := rfl
abbrev iv (z : Int) : Value := .int .i64 z
abbrev sv (l : List UInt8) : Value := .string ⟨l.toArray⟩
abbrev tv (b : Bool) : Value := .bool b
theorem rC (z : Int) : (iv z).cells = #[iv z] := by kernel_rfl
theorem uL (z : Int) : (iv z).oneCell' = true := by kernel_rfl
theorem nK (l : List UInt8) : (sv l).cells = #[sv l] := by kernel_rfl
theorem sH (l : List UInt8) : (sv l).oneCell' = true := by kernel_rfl
theorem kw (a : Option Addr) (n c : Nat) : (Value.slice a n c).cells = #[Value.slice a n c] := by kernel_rfl
theorem sG (a : Option Addr) (n c : Nat) : (Value.slice a n c).oneCell' = true := by kernel_rfl
theorem di : kg .string sv := ⟨fun _ => rfl, fun x y => by
 simp only [eK, fb]
 by_cases h : x = y
 ·subst h; simp
 ·have : (⟨x.toArray⟩ : ByteArray) ≠ ⟨y.toArray⟩ := fun e => h (by have := congrArg (fun b => b.data.toList) e; simpa using this)
  simp [h, this]⟩
end Go.Ab

set_option linter.unusedVariables false
set_option linter.unusedSimpArgs false
namespace Go.Ab
open Go.RowKit Go.ChangeShapes Go.WideShapes Go.ChangeAt
theorem tq {P : Program} {μ : Map} {M : Store} {w : World} (hR : Rel P μ M w) (hro : ∀ i l, μ i = some l → l.own = false) {b o : Nat} {cc : Array Value} {ce : TypeId} {fr : Nat × Nat} (hb : w.heap[b]? = some (.cells cc ce fr))
    {c : List Value} (hc : LRel (CRel P μ w.shape?) ((cc.toList.drop o).take c.length) c) (e : TypeId) :
    Rel P (upd μ M.n ⟨b, o, false⟩) (M.push (some (.inl (c, e, false)))) w ∧ MLe μ (upd μ M.n ⟨b, o, false⟩) ∧ (∀ i l, upd μ M.n ⟨b, o, false⟩ i = some l → l.own = false) := by
 have hle := MLe.upd (l := ⟨b, o, false⟩) hR.fresh
 have hown : ∀ i l, upd μ M.n ⟨b, o, false⟩ i = some l → l.own = false := by
  intro i l hi
  by_cases e : i = M.n
  ·subst e; rw [aF] at hi; injection hi with hi; subst hi; rfl
  ·rw [bC _ _ e] at hi; exact hro i l hi
 refine ⟨⟨?_, ?_, ?_⟩, hle, hown⟩
 ·intro i l hi
  by_cases e : i = M.n
  ·subst e; rw [aF] at hi; injection hi with hi; subst hi
   exact ⟨by simp, (Array.getElem?_eq_some_iff.1 hb).1⟩
  ·rw [bC _ _ e] at hi
   have := hR.dom _ _ hi
   exact ⟨by simp; omega, this.2⟩
 ·intro i l hi
  by_cases e : i = M.n
  ·subst e; rw [aF] at hi; injection hi with hi; subst hi
   rw [Store.get_push_eq]
   exact ⟨rfl, cc, ce, fr, hb, hc.mono fun _ _ => CRel.mono hle (.refl _), fun h => by cases h⟩
  ·rw [bC _ _ e] at hi
   rw [Store.get_push_ne _ _ e]
   have := hR.obj i l hi
   cases ho : M.get i with
   | none => trivial
   | some x =>
    rw [ho] at this
    match x, this with
    | .inl (c, e, own), ⟨h1, cc, ce, fr, h2, h3, h4⟩ => exact ⟨h1, cc, ce, fr, h2, h3.mono fun _ _ => CRel.mono hle (.refl _), h4⟩
    | .inr (.inl es), ⟨h1, en, ck, h2, h3, h5⟩ => exact ⟨h1, en, ck, h2, ⟨h3.1, fun i x kv a b => ⟨((h3.2 i x kv a b).1).mono hle (.refl _), ((h3.2 i x kv a b).2.1).mono hle (.refl _), (h3.2 i x kv a b).2.2⟩⟩, h5⟩
    | .inr (.inr none), h => exact h
    | .inr (.inr (some r)), ⟨h1, q, h2, h3⟩ => exact ⟨h1, q, h2, h3.mono hle (.refl _)⟩
 ·intro i j l k hi hj hne h1 h2 ho
  rw [hown i l hi] at ho; cases ho
structure Lay (P : Program) (w : World) (μ : Map) (M : Store) : Prop where
 rel : Rel P μ M w
 ro : ∀ i l, μ i = some l → l.own = false
 glob : GOk μ w.shape?
theorem rZ {P : Program} {μ : Map} {sh : Shp} (a : Option Addr) (c : Nat) (hc : c ≤ maxLen) (h : a = none → c = 0) : ∃ a', (∀ x, a' = some x → x.spot = none) ∧ SlRel P μ sh a 0 c a' 0 2 := by
 cases a with
 | none => exact ⟨none, (fun _ h => by cases h), { len := rfl, le := Nat.zero_le _, max := hc, full := (fun h => by cases h), some_ := rfl, nil := (fun _ => ⟨rfl, h rfl⟩), addr := (fun h => by rcases h with h | h <;> omega) }⟩
 | some x => exact ⟨some ⟨0, 0, none⟩, (fun x h => by injection h with h; subst h; rfl), { len := rfl, le := Nat.zero_le _, max := hc, full := (fun h => by cases h), some_ := rfl, nil := (fun h => by cases h), addr := (fun h => by rcases h with h | h <;> omega) }⟩
theorem jr {w : World} {a : Addr} {n : Nat} {f : Nat → Value} (hn : 0 < n) (h : ∀ i, i < n → w.cell? (a.add i) = some (f i)) :
    a.spot = none ∧ ∃ cc ce fr, w.heap[a.block]? = some (.cells cc ce fr) ∧ (cc.toList.drop a.off).take n = (List.range n).map f := by
 have h0 := h 0 hn
 have e0 : a.add 0 = a := by simp [Addr.add]
 rw [e0] at h0
 unfold World.cell? at h0
 split at h0
 ·rename_i cc ce fr hb
  split at h0
  ·cases h0
  ·rename_i hs
   have hs' : a.spot = none := by cases hsp : a.spot with | none => rfl | some x => rw [hsp] at hs; simp at hs
   refine ⟨hs', cc, ce, fr, hb, ?_⟩
   have hall : ∀ i, i < n → cc.toList[a.off + i]? = some (f i) := by
    intro i hi
    have := h i hi
    obtain ⟨b, o, sp⟩ := a
    simp only at hs' hb
    subst hs'
    rw [gm] at this
    unfold World.cell? at this
    simp only [hb] at this
    simpa using this
   apply List.ext_getElem?
   intro i
   rw [List.getElem?_take, List.getElem?_drop, List.getElem?_map]
   by_cases hi : i < n
   ·rw [if_pos hi, hall i hi, List.getElem?_range hi]; rfl
   ·rw [if_neg hi, List.getElem?_eq_none (by simp; omega)]; rfl
 ·cases h0
theorem ti {P : Program} {w : World} {μ : Map} {M : Store} (hL : Lay P w μ M) {a : Addr} {n c : Nat} (hnc : n ≤ c) (hc : c ≤ maxLen) (hn : 0 < n) {f : Nat → Value} {vs : List Value} (hf : ∀ i, i < n → w.cell? (a.add i) = some (f i))
    (hvs : LRel (CRel P μ w.shape?) ((List.range n).map f) vs) (e : TypeId) :
    ∃ μ', Lay P w μ' (M.push (some (.inl (vs, e, false)))) ∧ MLe μ μ' ∧ VRel P μ' w.shape? (.slice (some a) n c) (.slice (some ⟨M.n, 0, none⟩) n (n + 2)) ∧ Sl 1 e (M.push (some (.inl (vs, e, false)))) (.slice (some ⟨M.n, 0, none⟩) n (n + 2)) n vs := by
 obtain ⟨hs, cc, ce, fr, hb, hwin⟩ := jr hn hf
 have hlen : vs.length = n := by have := hvs.1; simpa using this.symm
 have hc' : LRel (CRel P μ w.shape?) ((cc.toList.drop a.off).take vs.length) vs := by rw [hlen, hwin]; exact hvs
 obtain ⟨h1, h2, h3⟩ := tq hL.rel hL.ro hb hc' e
 refine ⟨_, ⟨h1, h3, hL.glob.mono h2 (.refl _)⟩, h2, ?_, by rw [hlen, Nat.mul_one], _, _, rfl, ?_, ?_⟩
 ·refine VRel.of_B (show SlRel P _ _ _ _ _ _ _ _ from { len := rfl, le := hnc, max := hc, full := (fun h => by omega), some_ := rfl, nil := (fun h => by cases h), addr := ?_ })
  intro _ x hx
  injection hx with hx; subst hx
  refine ⟨a, rfl, ⟨rfl, ⟨a.block, a.off, false⟩, aF _ _ _, ?_⟩, ?_⟩
  ·obtain ⟨b, o, sp⟩ := a; simp only at hs; subst hs; rfl
  ·intro l hl ho
   rw [aF] at hl; injection hl with hl; subst hl; cases ho
 ·intro x hx; injection hx with hx; subst hx; rfl
 ·intro _
  exact ⟨M.n, 0, vs, e, false, rfl, Store.get_push_eq _ _, (fun h => by cases h), by omega, by rw [List.drop_zero, List.take_of_length_le (by omega)]⟩
theorem nM {P : Program} {μ : Map} {sh : Shp} (k : IntKind) (n : Int) : CRel P μ sh (.int k n) (.int k n) := ⟨rfl, rfl⟩
end Go.Ab

set_option linter.unusedVariables false
set_option linter.unusedSimpArgs false
namespace Go.Ab
def l4 : Array Value → Store → Option (Value × Store) := fun args M => match args.toList with
 | [.string s, .int .u8 c] => some (.int .i64 (Lib.indexByte s.data.toList c.toNat.toUInt8), M)
 | _ => none
def lQ : Array Value → Store → Option (Value × Store) := fun args M => match args.toList with
 | [.string s, .int .u8 c] => some (.int .i64 (Lib.countByte s.data.toList c.toNat.toUInt8 : Nat), M)
 | _ => none
theorem nU {P : Program} {f : FuncId} {fn : Func} {e : Array Value → Sem Value} (hf : P.funcs[f]? = some fn) (hn : (fn.name == "runtime.NumGoroutine") = false) (hb : fn.body.isNone = true) (hx : Extern.findNext fn = none) (he : Extern.find fn = some e)
    {g : Array Value → Store → Option (Value × Store)} (hg : ∀ args M r, g args M = some r → r.2 = M ∧ (∀ x ∈ args.toList, bH x = true ∧ ∀ sh, ∀ μ u, VRel P μ sh u x → u = x) ∧ (∀ μ sh, VRel P μ sh r.1 r.1) ∧ ∀ w, (e args).run P w = .ok r.1 w) : dz P f g := by
 intro args M v M' h
 obtain ⟨h1, h2, h3, h4⟩ := hg args M _ h
 simp only at h1; subst h1
 refine ⟨Grow.refl _, fun x hx l a b he => ?_, fun μ w cargs hG hR hargs => ?_⟩
 ·have := (h2 x hx).1; rw [he] at this; cases this
 ·have hc : cargs = args := by
    apply Array.toList_inj.1
    apply List.ext_getElem hargs.1
    intro i h5 h6
    have := hargs.2 i _ _ (List.getElem?_eq_getElem h5) (List.getElem?_eq_getElem h6)
    exact (h2 _ (List.getElem_mem h6)).2 _ _ _ this
  subst hc
  refine ⟨v, w, ?_, μ, hR, Step.refl _ _ _, h3 _ _⟩
  rw [run_callFunc_extern hf hn hb hx he, h4 w]; rfl
theorem uv {P : Program} {μ : Map} {sh : Shp} {u : Value} {s : ByteArray} (h : VRel P μ sh u (.string s)) : u = .string s := h.string
theorem uu {P : Program} {μ : Map} {sh : Shp} {u : Value} {k : IntKind} {n : Int} (h : VRel P μ sh u (.int k n)) : u = .int k n := h.int
theorem pc {P : Program} {f : FuncId} {fn : Func} (hf : P.funcs[f]? = some fn) (hn : (fn.name == "runtime.NumGoroutine") = false) (hb : fn.body.isNone = true) (hx : Extern.findNext fn = none) (he : Extern.find fn = some Extern.BytealgIndexByte.indexByte) : dz P f l4 := by
 refine nU hf hn hb hx he fun args M r h => ?_
 unfold l4 at h
 split at h
 ·rename_i s c hargs
  injection h with h; subst h
  obtain rfl : args = #[.string s, .int .u8 c] := by apply Array.toList_inj.1; simpa using hargs
  refine ⟨rfl, fun x hx => ?_, fun μ sh => VRel.mkInt _ _, fun w => Lib.run_indexByteString s c w⟩
  simp only [List.mem_cons, List.not_mem_nil, or_false] at hx
  rcases hx with rfl | rfl
  ·exact ⟨rfl, fun _ _ _ h => uv h⟩
  ·exact ⟨rfl, fun _ _ _ h => uu h⟩
 ·cases h
theorem o6 {P : Program} {f : FuncId} {fn : Func} (hf : P.funcs[f]? = some fn) (hn : (fn.name == "runtime.NumGoroutine") = false) (hb : fn.body.isNone = true) (hx : Extern.findNext fn = none) (he : Extern.find fn = some Extern.BytealgCount.count) : dz P f lQ := by
 refine nU hf hn hb hx he fun args M r h => ?_
 unfold lQ at h
 split at h
 ·rename_i s c hargs
  injection h with h; subst h
  obtain rfl : args = #[.string s, .int .u8 c] := by apply Array.toList_inj.1; simpa using hargs
  refine ⟨rfl, fun x hx => ?_, fun μ sh => VRel.mkInt _ _, fun w => Lib.run_countString s c w⟩
  simp only [List.mem_cons, List.not_mem_nil, or_false] at hx
  rcases hx with rfl | rfl
  ·exact ⟨rfl, fun _ _ _ h => uv h⟩
  ·exact ⟨rfl, fun _ _ _ h => uu h⟩
 ·cases h
end Go.Ab

set_option linter.unusedVariables false
set_option linter.unusedSimpArgs false
namespace Go.Ab
open Go.RowKit Go.ChangeShapes Go.WideShapes Go.ChangeAt
theorem Lay.tabs {P : Program} {w : World} {M : Store} (hn : M.n = a7.length) (hw : Gsh w)
    (ho : ∀ i g, a7[i]? = some g → ObjRel P fu w ⟨g, 0, false⟩ (M.get i)) : Lay P w fu M := by
 refine ⟨⟨fun i l h => ⟨by rw [hn]; exact (dk h).2.1, hw.there _ (dk h).2.2⟩, fun i l h => ?_, fun i j l k h _ _ _ _ ho' => by rw [(dk h).1] at ho'; cases ho'⟩, fun _ _ h => (dk h).1, sA hw⟩
 unfold fu at h
 split at h
 ·rename_i g hg
  injection h with h; subst h
  exact ho i g hg
 ·cases h
def qR (P : Program) : Bool := (List.range a7.length).all fun i => match a7[i]? with
 | some g => decide (g < P.globals.size) && (match ((begin P (fun _ _ => 0) default).world.heap[g]?).bind Obj.row? with
  | some (z, _) => Nat.beq z.size (gsz.getD i 0)
  | none => false)
 | none => false
theorem oP {P : Program} {w : World} (h : qR P = true) (hS : w.ShapedOpen P) : Gsh w := fun g i hi => by
 have hg := (lX _ _ _ _ hi).2
 simp only [Nat.sub_zero] at hg
 have := List.all_eq_true.1 h i (List.mem_range.2 (List.getElem?_eq_some_iff.1 hg).1)
 rw [hg] at this
 simp only [Bool.and_eq_true, decide_eq_true_eq] at this
 obtain ⟨h1, h2⟩ := this
 split at h2
 ·rename_i z t h3
  obtain ⟨cs, h4, h5, _⟩ := hS.1 g z t h1 h3
  refine ⟨t, ?_⟩
  unfold World.shape?
  rw [h4, ← Nat.eq_of_beq_eq_true h2, ← h5]
 ·cases h2
theorem r9 {P : Program} {w : World} {laid : List (String × DataW Unit)} (h : laidMet P laid w) {name : String} {k : IntKind} {zs : List Int} (hm : (name, Lib.tabData k zs) ∈ laid) {g : Nat} {t e : TypeId} {n : Nat}
    (hg : P.globalNamed name = some g) (hty : (P.globals[g]?).map (·.type) = some t) (ht : P.underlying t = some (.array n e)) (he : P.underlying e = some (.int k)) (hce : P.cellsOf e = 1) (hct : P.cellsOf t = n) (u : TypeId) :
    ObjRel P fu w ⟨g, 0, false⟩ (some (.inl (zs.map fun z => Value.int k z, u, false))) := by
 obtain ⟨g', t', cs, fuel, p, hg', ht', hvar, hd⟩ := Lib.laidMet.reads h hm
 obtain rfl := Option.some.inj (hg.symm.trans hg')
 obtain rfl := Option.some.inj (hty.symm.trans ht')
 have hc := Lib.cells_of_tab ht he hce hct hd
 simp only [World.var?, hg, Option.bind_some] at hvar
 split at hvar
 ·rename_i cc ce fr hb
  injection hvar with hvar; subst hvar
  refine ⟨rfl, cc, ce, fr, hb, ?_, fun h => by cases h⟩
  rw [hc]
  simp only [List.drop_zero, List.take_length]
  exact LRel.same fun v hv => by
   obtain ⟨z, _, rfl⟩ := List.mem_map.1 hv
   exact nM _ _
 ·cases hvar
theorem pg {P : Program} {w : World} {laid : List (String × DataW Unit)} (h : laidMet P laid w) {name nt : String} {d : DataW Unit} (hm : (name, DataW.iface nt (.ptr d)) ∈ laid) {g : Nat} {t : TypeId} {ms : Array (String × TypeId)}
    (hg : P.globalNamed name = some g) (hty : (P.globals[g]?).map (·.type) = some t) (ht : P.underlying t = some (.interface ms)) (q : TypeId) (b : Addr) (hb : b.spot ≠ none) :
    ∃ u, ObjRel P fu w ⟨g, 0, false⟩ (some (.inl ([.iface u (.pointer (some b))], q, false))) := by
 obtain ⟨g', t', cs, fuel, p, hg', ht', hvar, hd⟩ := Lib.laidMet.reads h hm
 obtain rfl := Option.some.inj (hg.symm.trans hg')
 obtain rfl := Option.some.inj (hty.symm.trans ht')
 obtain ⟨x, v, hcs, hn, hd2⟩ : ∃ x v, cs.toList = [.iface x v] ∧ P.typeName? 3 x = some nt ∧ ∃ fuel p, DataW.trod (fun _ => ()) P w 0 (fun _ => true) false fuel x v.cells.toList = some (.ptr d, p) := by
  cases fuel with
  | zero => simp [DataW.trod] at hd
  | succ fuel =>
   unfold DataW.trod at hd
   rw [ht] at hd
   split at hd <;> try simp_all
   rename_i x v _ _
   refine ⟨x, v, ⟨rfl, rfl⟩, ?_⟩
   cases hnm : P.typeName? 3 x with
   | none => rw [hnm] at hd; simp at hd
   | some nm =>
    rw [hnm] at hd
    simp only [Option.map_eq_some_iff] at hd
    obtain ⟨r, hr, hr2⟩ := hd
    simp only [Prod.mk.injEq, DataW.iface.injEq] at hr2
    obtain ⟨⟨rfl, hr3⟩, _⟩ := hr2
    exact ⟨rfl, fuel, r.2, by rw [hr, ← hr3]⟩
 obtain ⟨fuel', p', hd2⟩ := hd2
 obtain ⟨e, hu⟩ : ∃ e, P.underlying x = some (.pointer e) := by
  cases fuel' with
  | zero => simp [DataW.trod] at hd2
  | succ fuel =>
   unfold DataW.trod at hd2
   split at hd2 <;> first
    | exact ⟨_, by assumption⟩
    | (simp at hd2; done)
    | (split at hd2 <;> simp at hd2; done)
    | skip
   ·simp only at hd2
    split at hd2
    ·obtain ⟨_, _, h⟩ := Option.bind_eq_some_iff.1 hd2
     obtain ⟨_, _, h⟩ := Option.map_eq_some_iff.1 h
     cases congrArg Prod.fst h
    ·cases hd2
   ·split at hd2
    ·split at hd2
     ·obtain ⟨_, _, h⟩ := Option.bind_eq_some_iff.1 hd2
      simp only at h
      split at h
      ·cases congrArg Prod.fst (Option.some.inj h)
      ·cases h
     ·cases hd2
    ·cases hd2
 have hcell : w.cell? ⟨g, 0, none⟩ = some (.iface x v) := by
  rw [World.var?_cell hg hvar 0]
  have : cs.toList[0]? = some (.iface x v) := by rw [hcs]; rfl
  simpa using this
 obtain ⟨ps, hv, _, hok⟩ := h
 have hmem : ∀ {l : List (String × DataW Unit)} {ps : List MemPlace}, DataW.LaidVars P w l ps → (name, DataW.iface nt (.ptr d)) ∈ l → MemPlace.cell g 0 ∈ ps := by
  intro l
  induction l with
  | nil => intro ps _ hm; cases hm
  | cons y r ih =>
   intro ps hv hm
   obtain ⟨n', d'⟩ := y
   obtain ⟨g1, t1, cs1, fuel1, p1, q1, k1, k2, k3, k4, k5, rfl⟩ := hv
   rcases List.mem_cons.1 hm with e | e
   ·cases e
    obtain rfl := Option.some.inj (hg.symm.trans k1)
    obtain rfl := Option.some.inj (hvar.symm.trans k3)
    have hsz : cs.size = 1 := by have := congrArg List.length hcs; simpa using this
    refine List.mem_append_left _ (List.mem_append_left _ ?_)
    rw [hsz]
    simp [MemPlace.row]
   ·exact List.mem_append_right _ (ih k5 e)
 have hval := (hok g 0 (hmem hv hm)).2 x v hcell
 obtain ⟨a0, rfl⟩ := okWide_pointer hu hval
 obtain ⟨a, rfl⟩ : ∃ a, a0 = some a := by
  cases a0 with
  | some a => exact ⟨a, rfl⟩
  | none =>
   rcases DataW.trod_pointer hu hd2 with ⟨_, hx⟩ | ⟨_, _, _, _, _, hx, _⟩
   ·cases hx
   ·simp [Value.cells] at hx
 simp only [World.var?, hg, Option.bind_some] at hvar
 split at hvar
 ·rename_i cc ce fr hbl
  injection hvar with hvar; subst hvar
  refine ⟨x, rfl, cc, ce, fr, hbl, ?_, fun h => by cases h⟩
  rw [hcs]
  exact LRel.cons ⟨rfl, .inr hb⟩ (LRel.nil _)
 ·cases hvar
theorem mc {H : Type} {enc : TypeId × Value → H} {a : Assume} {C : Checked} {os : Os} {f : FuncId} {fn : Func} {s : ChangeSpec} {cB fresh handsOn again : Bool} {X : World → Array Value → Prop}
    (hX : ∀ (w w' : World) (args : Array Value), w.heap = w'.heap → X w args → X w' args)
    (own : ownKnob C.prog.godebug = none) (started : os.Started) (noInit : C.prog.inits.idxOf? f = none) (hfn : C.prog.funcs[f]? = some fn)
    (witness : ∃ (w : World) (tape : Tape) (i : Input), w.os = os ∧ (w.forCall tape i).Shaped C.prog ∧ i.vars = [] ∧ Input.okWide C.prog (w.forCall tape i) .any w.heap.size f i ∧
     ((s.pre enc C.prog fn [] cB (w.forCall tape i).memory i.args ∧ X (w.forCall tape i).memory i.args) ∧ sizedMet enc C.prog fn (OpenSpec.ofChange s) cB (w.forCall tape i).memory i.args) ∧ a.holds C.prog (lone (Frame.enter C.prog f i.args .normal) [] (w.forCall tape i)))
    (ky : ∀ (W : World) (base : Nat) (args : Array Value) (ds gs : List (DataW H)) (before : List MemPlace), W.ShapedOpen C.prog → X W args →
     (∀ (j : Nat) t v, fn.params[j]? = some t → args[j]? = some v → Value.okWide C.prog W .any base t v) →
     DataW.Whole enc C.prog fn.params.toList s.vars cB W args.toList ds gs before →
     Calls C.prog f args W fun e W' => ∃ v, e = .returned v ∧ s.post enc C.prog fn cB fresh handsOn again W args v W') :
    ReturnsInHanded a C os f .any (fun w args => (s.pre enc C.prog fn [] cB w args ∧ X w args) ∧ sizedMet enc C.prog fn (OpenSpec.ofChange s) cB w args) (s.post enc C.prog fn cB fresh handsOn again) := by
 refine returnsInHanded_of_calls own started noInit witness ?_
 intro w tape i _ hS _ hok hpre _
 obtain ⟨_, _, _, fn', hfn', _, _, _, _, hval⟩ := hok
 obtain rfl : fn' = fn := Option.some.inj (hfn'.symm.trans hfn)
 obtain ⟨⟨⟨ds, gs, before, hw, _⟩, hx⟩, _⟩ := hpre
 refine (ky (w.forCall tape i) w.heap.size i.args ds gs before hS (hX _ _ _ (by rfl) hx) hval (DataW.Whole.of_heap (w' := w.forCall tape i) (by rfl) hw)).mono fun e W' h => ?_
 obtain ⟨v, rfl, hp⟩ := h
 exact ChangeSpec.post_blind hp
end Go.Ab

set_option linter.unusedVariables false
set_option linter.unusedSimpArgs false
namespace Go.Ab
open Go.RowKit Go.Proofs Go.Shelf
theorem iz {P : Program} {f : FuncId} {fn : Func} {c : Code} (hf : P.funcs[f]? = some fn) (hb : fn.body = some c) (hn : (fn.name == "runtime.NumGoroutine") = false) {g : Array Value → Store → Option (Value × Store)}
    (hg : ∀ args M v M', g args M = some (v, M') → M' = M ∧ ∀ μ w cargs, GOk μ w.shape? → Rel P μ M w → LRel (VRel P μ w.shape?) cargs.toList args.toList →
     Calls P f cargs w fun e w' => ∃ cv, e = .returned cv ∧ (∀ sh, VRel P μ sh cv v) ∧ Below w.heap.size w w') : ay P f g := by
 intro args M v M' h
 obtain ⟨rfl, h2⟩ := hg args M v M' h
 refine ⟨⟨⟨fn, c, hf, hb, hn⟩, Grow.refl _⟩, fun μ w cargs hG hR hargs => ?_⟩
 refine (h2 μ w cargs hG hR hargs).mono fun e w' ⟨cv, he, hv, hB⟩ => ⟨cv, he, μ, ?_, ?_, hv _⟩
 ·have hsh : SLe w.shape? w'.shape? := fun b x hx => by
    unfold World.shape? at hx ⊢
    rw [hB.block b (iK (w := w) (x := x) hx)]; exact hx
  exact ⟨fun i l hl => ⟨(hR.dom i l hl).1, Nat.lt_of_lt_of_le (hR.dom i l hl).2 hB.size⟩, fun i l hl => (hR.obj i l hl).mono (.refl _) hsh (hB.block _ (hR.dom i l hl).2), hR.excl⟩
 ·have hsh : SLe w.shape? w'.shape? := fun b x hx => by
    unfold World.shape? at hx ⊢
    rw [hB.block b (iK (w := w) (x := x) hx)]; exact hx
  exact ⟨.refl _, Nat.le_refl _, hB.size, hB.os, hB.tape, hB.output, hsh, [], rfl, fun b hb _ => hB.block b hb, fun i l hl => .inl hl⟩
def ly (k : IntKind) : List Value → List Nat → Bool
 | [], [] => true
 | .int j (.ofNat n) :: r, m :: s => decide (j = k) && Nat.beq n m && ly k r s
 | _, _ => false
theorem mK {k : IntKind} : ∀ {l : List Value} {m : List Nat}, ly k l m = true → l = m.map fun (n : Nat) => Value.int k (n : Int)
 | [], [], _ => rfl
 | [], _ :: _, h => by cases h
 | v :: r, [], h => by cases v <;> first | (cases h; done) | (rename_i j n; cases n <;> cases h)
 | v :: r, m :: s, h => by
  cases v with
  | int j n =>
   cases n with
   | ofNat n =>
    simp only [ly, Bool.and_eq_true, decide_eq_true_eq] at h
    obtain ⟨⟨rfl, h2⟩, h3⟩ := h
    rw [mK h3, Nat.eq_of_beq_eq_true h2]; rfl
   | negSucc n => cases h
  | _ => cases h
def q6 : List Nat := [1, 10, 100, 1000, 10000, 100000, 1000000, 10000000, 100000000, 1000000000, 10000000000, 100000000000, 1000000000000, 10000000000000, 100000000000000, 1000000000000000, 10000000000000000, 100000000000000000, 1000000000000000000, 10000000000000000000]
def iG (o : aJ) : Bool := match o with
 | some (.inl (c, _, _)) => ly .u64 c q6
 | _ => false
def eg (o : aJ) : Bool := match o with
 | some (.inl ([.iface _ _], _, _)) => true
 | _ => false
theorem tn {P : Program} {μ : Map} {M : Store} {w : World} (hG : GOk μ w.shape?) (hR : Rel P μ M w) {name : String} {g i : Nat} (hn : P.globalNamed name = some g) (hi : gix a7 0 g = some i) (hz : gsz.getD i 0 = 20) (h : iG (M.get i) = true) :
    Lib.TabIs P w name .u64 Lib.pow10Tab := by
 obtain ⟨h1, e, h2⟩ := hG g i hi
 have ho := hR.obj i _ h1
 unfold iG at h
 split at h
 ·rename_i c e' own hM
  rw [hM] at ho
  obtain ⟨_, cc, ce, fr, hb, hc, _⟩ := ho
  have hcv := mK h
  simp only [World.shape?, hb, Option.some.injEq, Prod.mk.injEq] at h2
  have hl : c.length = 20 := by rw [hcv]; rfl
  have hcc : cc.toList = c := by
   simp only [List.drop_zero] at hc
   rw [List.take_of_length_le (by rw [Array.length_toList, h2.2, hz, hl]; exact Nat.le_refl _)] at hc
   apply List.ext_getElem hc.1
   intro j k1 k2
   have hr := hc.2 j _ _ (List.getElem?_eq_getElem k1) (List.getElem?_eq_getElem k2)
   obtain ⟨n, hn⟩ : ∃ n : Nat, c[j] = Value.int .u64 (n : Int) := by
    have hm : c[j] ∈ q6.map fun (n : Nat) => Value.int .u64 (n : Int) := hcv ▸ List.getElem_mem k2
    obtain ⟨n, _, hn⟩ := List.mem_map.1 hm
    exact ⟨n, hn.symm⟩
   rw [hn] at hr ⊢
   exact (VRel.of_D (.of_C hr)).int
  unfold Lib.TabIs World.var?
  rw [hn]
  simp only [Option.bind_some, hb]
  congr 1
  apply Array.toList_inj.1
  rw [hcc, hcv]
  rfl
 ·cases h
theorem o8 {P : Program} {μ : Map} {M : Store} {w : World} (hG : GOk μ w.shape?) (hR : Rel P μ M w) {g i : Nat} (hi : gix a7 0 g = some i) (h : eg (M.get i) = true) :
    ∃ ev, w.cell? ⟨g, 0, none⟩ = some ev ∧ ∃ te pe, ev = .iface te pe := by
 obtain ⟨h1, _⟩ := hG g i hi
 have ho := hR.obj i _ h1
 unfold eg at h
 split at h
 ·rename_i x y e' own hM
  obtain ⟨us, h3, h4, h5⟩ := eF hR (b := i) (o := 0) (n := 1) (cs := [.iface x y]) (by unfold b8; rw [hM]; rfl) h1
  have h0 : 0 < us.length := by omega
  obtain ⟨v, hv, hr⟩ := h3.get' (List.getElem?_eq_getElem h0)
  obtain rfl : Value.iface x y = v := Option.some.inj hv
  refine ⟨us[0], h5 0 _ (List.getElem?_eq_getElem h0), ?_⟩
  generalize us[0] = u at hr
  cases u <;> first
   | exact ⟨_, _, rfl⟩
   | exact hr.elim
 ·cases h
def nQ : Nat → Nat → List UInt8
 | 0, _ => []
 | k + 1, u => bif Nat.blt u 10 then [UInt8.ofNat (48 + u)] else nQ k (u / 10) ++ [UInt8.ofNat (48 + u % 10)]
theorem lT : ∀ (k u : Nat), u < 10 ^ k → 0 < k → nQ k u = Lib.decDigits u
 | 0, _, _, h => absurd h (by decide)
 | k + 1, u, h, _ => by
  unfold nQ
  rw [Lib.decDigits]
  by_cases h1 : u < 10
  ·rw [dif_pos h1]
   have : Nat.blt u 10 = true := by simpa using h1
   rw [this]; rfl
  ·rw [dif_neg h1]
   have : Nat.blt u 10 = false := by
    cases hb : Nat.blt u 10 with
    | false => rfl
    | true => exact absurd (by simpa using hb) h1
   rw [this]
   have hk : 0 < k := by
    rcases k with _ | k
    ·simp at h; omega
    ·omega
   rw [cond_false, lT k (u / 10) (by rw [Nat.pow_succ] at h; omega) hk]
def dec (n : Int) : List UInt8 := match n with
 | .ofNat u => nQ 20 u
 | .negSucc u => 45 :: nQ 20 (u + 1)
theorem nR {n : Int} (h0 : -9223372036854775808 ≤ n) (h1 : n ≤ 9223372036854775807) : dec n = Lib.itoa n := by
 unfold dec Lib.itoa
 cases n with
 | ofNat u =>
  rw [if_neg (by simp)]
  exact lT 20 u (by simp at h1; omega) (by decide)
 | negSucc u =>
  rw [if_pos (Int.negSucc_lt_zero u)]
  simp only [Int.natAbs_negSucc]
  congr 1
  exact lT 20 (u + 1) (by omega) (by decide)
theorem fz {P : Program} {μ : Map} {sh : Shp} {cargs args : Array Value} {a : Value} (h : LRel (VRel P μ sh) cargs.toList args.toList) (e : args.toList = [a]) : ∃ c, cargs = #[c] ∧ VRel P μ sh c a := by
 rw [e] at h
 have hl := h.1
 match hc : cargs.toList, hl, h with
 | [c], _, h => exact ⟨c, by apply Array.toList_inj.1; rw [hc], h.head⟩
theorem uB {P : Program} {μ : Map} {sh : Shp} {cargs args : Array Value} {a b : Value} (h : LRel (VRel P μ sh) cargs.toList args.toList) (e : args.toList = [a, b]) : ∃ c d, cargs = #[c, d] ∧ VRel P μ sh c a ∧ VRel P μ sh d b := by
 rw [e] at h
 have hl := h.1
 match hc : cargs.toList, hl, h with
 | [c, d], _, h => exact ⟨c, d, by apply Array.toList_inj.1; rw [hc], h.head, h.tail.head⟩
def pZ (pb : Nat) : Array Value → Store → Option (Value × Store) := fun args M => match args.toList with
 | [.int .i64 n] => bif decide (0 ≤ n) && decide (n < 100) then some (.string ⟨(dec n).toArray⟩, M)
  else bif decide (-9223372036854775808 ≤ n) && decide (n ≤ 9223372036854775807) && iG (M.get pb) then some (.string ⟨(dec n).toArray⟩, M) else none
 | _ => none
theorem rG {P : Program} {ρ : Ren} (L : LaysM.n171 P ρ) {fn : Func} {c : Code} (hf : P.funcs[ρ.f 171]? = some fn) (hb : fn.body = some c) (hn : (fn.name == "runtime.NumGoroutine") = false)
    {g pb : Nat} (hg : P.globalNamed "internal/strconv.uint64pow10" = some g) (hi : gix a7 0 g = some pb) (hz : gsz.getD pb 0 = 20) : ay P (ρ.f 171) (pZ pb) := by
 refine iz hf hb hn fun args M v M' h => ?_
 unfold pZ at h
 split at h
 ·rename_i n hargs
  cases h1 : decide (0 ≤ n) && decide (n < 100) with
  | true =>
   rw [h1, cond_true] at h
   injection h with h; injection h with h h'; subst h; subst h'
   simp only [Bool.and_eq_true, decide_eq_true_eq] at h1
   refine ⟨rfl, fun μ w cargs hG hR ha => ?_⟩
   obtain ⟨x, rfl, hx⟩ := fz ha hargs
   obtain rfl := hx.int
   obtain ⟨i, rfl⟩ : ∃ i : Nat, n = (i : Int) := ⟨n.toNat, by omega⟩
   refine (Any.strconv_Itoa_small { L with } i (by omega) w).mono fun e w' ⟨he, hw⟩ => ⟨_, he, fun sh => ?_, hw ▸ Below.refl _ _⟩
   rw [nR (by omega) (by omega), show Lib.itoa (i : Int) = Lib.decDigits i from by unfold Lib.itoa; rw [if_neg (by omega)]; rfl]
   exact VRel.mkString _
  | false =>
   rw [h1, cond_false] at h
   cases h2 : decide (-9223372036854775808 ≤ n) && decide (n ≤ 9223372036854775807) && iG (M.get pb) with
   | false => rw [h2] at h; cases h
   | true =>
    rw [h2, cond_true] at h
    injection h with h; injection h with h h'; subst h; subst h'
    simp only [Bool.and_eq_true, decide_eq_true_eq] at h2
    refine ⟨rfl, fun μ w cargs hG hR ha => ?_⟩
    obtain ⟨x, rfl, hx⟩ := fz ha hargs
    obtain rfl := hx.int
    refine (Any.strconv_Itoa L n h2.1.1 h2.1.2 w (tn hG hR hg hi hz h2.2)).mono fun e w' ⟨he, k, os, hw⟩ => ⟨_, he, fun sh => ?_, ?_⟩
    ·rw [nR h2.1.1 h2.1.2]; exact VRel.mkString _
    ·subst hw
     exact ⟨rfl, rfl, rfl, by simp [Sort.grow, World.drewN], fun k hk => by
      show (w.heap ++ os)[k]? = w.heap[k]?
      rw [Array.getElem?_append_left hk]⟩
 ·cases h
def pL (sb rb : Nat) (nt : TypeId) : Array Value → Store → Option (Value × Store) := fun args M => match args.toList with
 | [.string s] => bif Nat.ble s.size 281474976710656 then
     match Lib.atoiAll s.data.toList with
     | .ok v => some (.tuple #[.int .i64 v, .nilIface], M)
     | .syntax => bif eg (M.get sb) then some (.tuple #[.int .i64 0, .iface nt (.pointer (some ⟨0, 0, some 0⟩))], M) else none
     | .range => bif eg (M.get rb) then some (.tuple #[.int .i64 (Lib.atoiSat s.data.toList), .iface nt (.pointer (some ⟨0, 0, some 0⟩))], M) else none
  else none
 | _ => none
theorem ry {P : Program} {ρ : Ren} (L : LaysC.n172 P ρ) {fn : Func} {c : Code} (hf : P.funcs[ρ.f 172]? = some fn) (hb : fn.body = some c) (hn : (fn.name == "runtime.NumGoroutine") = false)
    {sb rb : Nat} (hs : gix a7 0 (ρ.g 15) = some sb) (hr : gix a7 0 (ρ.g 16) = some rb) : ay P (ρ.f 172) (pL sb rb (ρ.t 168)) := by
 refine iz hf hb hn fun args M v M' h => ?_
 unfold pL at h
 split at h
 ·rename_i s hargs
  cases h1 : Nat.ble s.size 281474976710656 with
  | false => rw [h1] at h; cases h
  | true =>
   rw [h1, cond_true] at h
   have h1 := Nat.le_of_ble_eq_true h1
   have hnum : ∀ (sh : Shp) (μ : Map) (n : Int) (N : Nat), VRel P μ sh (.tuple #[.int .i64 n, .iface (ρ.t 168) (.pointer (some ⟨N, 0, none⟩))]) (.tuple #[.int .i64 n, .iface (ρ.t 168) (.pointer (some ⟨0, 0, some 0⟩))]) := fun sh μ n N =>
    LRel.cons (DRel.of_C (.of_B ⟨rfl, rfl⟩)) (LRel.cons (show DRel P μ sh (.iface _ _) (.iface _ _) from ⟨rfl, .inr (by simp)⟩) (LRel.nil _))
   split at h
   ·rename_i v hv
    injection h with h; injection h with h h'; subst h; subst h'
    refine ⟨rfl, fun μ w cargs hG hR ha => ?_⟩
    obtain ⟨x, rfl, hx⟩ := fz ha hargs
    obtain rfl := hx.string
    refine (Any.strconv_Atoi_ok L s (by omega) v hv w).mono fun e w' ⟨he, hw⟩ => ⟨_, he, fun sh => ?_, ?_⟩
    ·exact LRel.cons (DRel.of_C (.of_B ⟨rfl, rfl⟩)) (LRel.cons (show DRel P μ sh .nilIface .nilIface from trivial) (LRel.nil _))
    ·rcases hw with rfl | ⟨t, rfl⟩
     ·exact Below.refl _ _
     ·exact Lib.bytesWorld_below _ _ _
   ·rename_i hv
    cases h2 : eg (M.get sb) with
    | false => rw [h2] at h; cases h
    | true =>
     rw [h2, cond_true] at h
     injection h with h; injection h with h h'; subst h; subst h'
     refine ⟨rfl, fun μ w cargs hG hR ha => ?_⟩
     obtain ⟨x, rfl, hx⟩ := fz ha hargs
     obtain rfl := hx.string
     obtain ⟨ev, hc, hev⟩ := o8 hG hR hs h2
     exact (Any.strconv_Atoi_syntax L s h1 hv ev w hc (.inr hev)).mono fun e w' ⟨N, he, _, _, hB⟩ => ⟨_, he, fun sh => hnum sh μ _ _, hB⟩
   ·rename_i hv
    cases h2 : eg (M.get rb) with
    | false => rw [h2] at h; cases h
    | true =>
     rw [h2, cond_true] at h
     injection h with h; injection h with h h'; subst h; subst h'
     refine ⟨rfl, fun μ w cargs hG hR ha => ?_⟩
     obtain ⟨x, rfl, hx⟩ := fz ha hargs
     obtain rfl := hx.string
     obtain ⟨ev, hc, hev⟩ := o8 hG hR hr h2
     exact (Any.strconv_Atoi_range L s h1 hv ev w hc (.inr hev)).mono fun e w' ⟨N, he, _, _, hB⟩ => ⟨_, he, fun sh => hnum sh μ _ _, hB⟩
 ·cases h
def jQ : List Value → Option (List ByteArray)
 | [] => some []
 | .string s :: r => (jQ r).map (s :: ·)
 | _ => none
theorem jF : ∀ {l : List Value} {xs : List ByteArray}, jQ l = some xs → l = xs.map Value.string
 | [], xs, h => by injection h with h; subst h; rfl
 | v :: r, xs, h => by
  cases v with
  | string s =>
   simp only [jQ, Option.map_eq_some_iff] at h
   obtain ⟨y, hy, rfl⟩ := h
   rw [jF hy]; rfl
  | _ => cases h
def jK (sep : List UInt8) : List (List UInt8) → List UInt8
 | [] => []
 | [x] => x
 | x :: y :: r => x ++ sep ++ jK sep (y :: r)
theorem kF (sep : List UInt8) : ∀ xs, jK sep xs = Lib.join xs sep
 | [] => rfl
 | [x] => (Lib.join_one x sep).symm
 | x :: y :: r => by
  rw [jK, kF sep (y :: r)]
  simp [Lib.join, List.intercalate]
def p4 : Array Value → Store → Option (Value × Store) := fun args M => match args.toList with
 | [.slice a n _, .string sep] => bif Nat.beq n 0 then some (.string ⟨#[]⟩, M) else match a with
  | some ⟨b, o, none⟩ => match (b8 M b o n).bind jQ with
   | some xs => bif Nat.ble (jK sep.data.toList (xs.map (·.data.toList))).length 140737488355328 && Nat.ble n 140737488355328 then some (.string ⟨(jK sep.data.toList (xs.map (·.data.toList))).toArray⟩, M) else none
   | none => none
  | _ => none
 | _ => none
theorem rI {P : Program} {ρ : Ren} (L : Lays.n156 P ρ) (X : Builder.Extra P ρ) {fn : Func} {c : Code} (hf : P.funcs[ρ.f 156]? = some fn) (hb : fn.body = some c) (hn : (fn.name == "runtime.NumGoroutine") = false) : ay P (ρ.f 156) p4 := by
 refine iz hf hb hn fun args M v M' h => ?_
 unfold p4 at h
 split at h
 ·rename_i a n cap sep hargs
  have key : ∀ {μ : Map} {w : World} {cargs : Array Value}, LRel (VRel P μ w.shape?) cargs.toList args.toList → ∃ ac cc, cargs = #[.slice ac n cc, .string sep] ∧ SlRel P μ w.shape? ac n cc a n cap := by
   intro μ w cargs ha
   obtain ⟨x, y, rfl, hx, hy⟩ := uB ha hargs
   obtain rfl := hy.string
   cases x <;> first
    | exact hx.elim
    | skip
   rename_i ac nc cc
   have hx : SlRel P μ w.shape? ac nc cc a n cap := hx
   obtain rfl := hx.len
   exact ⟨_, _, rfl, hx⟩
  cases h1 : Nat.beq n 0 with
  | true =>
   rw [h1, cond_true] at h
   injection h with h; injection h with h h'; subst h; subst h'
   obtain rfl := Nat.eq_of_beq_eq_true h1
   refine ⟨rfl, fun μ w cargs hG hR ha => ?_⟩
   obtain ⟨ac, cc, rfl, _⟩ := key ha
   refine (Any.strings_Join_none L X ac cc sep w).mono fun e w' ⟨he, hw⟩ => ⟨_, he, fun sh => ?_, hw ▸ Below.refl _ _⟩
   exact VRel.mkString _
  | false =>
   rw [h1, cond_false] at h
   split at h
   ·rename_i b o
    split at h
    ·rename_i xs hxs
     cases h2 : Nat.ble (jK sep.data.toList (xs.map (·.data.toList))).length 140737488355328 && Nat.ble n 140737488355328 with
     | false => rw [h2] at h; cases h
     | true =>
      rw [h2, cond_true] at h
      injection h with h; injection h with h h'; subst h; subst h'
      rw [Bool.and_eq_true] at h2
      have hnb := Nat.le_of_ble_eq_true h2.2
      obtain ⟨cs, hrow, htx⟩ := Option.bind_eq_some_iff.1 hxs
      have hcs := jF htx
      refine ⟨rfl, fun μ w cargs hG hR ha => ?_⟩
      obtain ⟨ac, cc, rfl, hS⟩ := key ha
      have hn0 : 0 < n := by
       rcases n with _ | n
       ·simp at h1
       ·omega
      obtain ⟨y, rfl, ⟨_, l, hl, rfl⟩, _⟩ := hS.addr (.inl hn0) _ rfl
      obtain ⟨us, h3, h4, h5⟩ := eF hR hrow hl
      have hlen : xs.length = n := by
       have := h3.1; rw [hcs] at this; simp at this; omega
      have hcells : ∀ (j : Nat) x, xs[j]? = some x → w.cell? ⟨l.b, l.o + o + j, none⟩ = some (.string x) := by
       intro j x hx
       have hc : cs[j]? = some (.string x) := by rw [hcs, List.getElem?_map, hx]; rfl
       obtain ⟨u, hu, hr⟩ := h3.get hc
       rw [h5 j u hu, (VRel.of_D (.of_C hr)).string]
      have hcap : xs.length ≤ cc := by rw [hlen]; exact hS.le
      have hj := Any.strings_Join L X l.b (l.o + o) cc xs sep w hcells (hR.dom _ _ hl).2 (by omega) hcap (by rw [← kF]; exact Nat.le_of_ble_eq_true h2.1)
      rw [hlen] at hj
      refine hj.mono fun e w' ⟨he, hB⟩ => ⟨_, he, fun sh => ?_, hB⟩
      rw [kF]; exact VRel.mkString _
    ·cases h
   ·cases h
 ·cases h
end Go.Ab
