/- ... -/
import Derived.Test.YtnonfejhkbaikaaPKC
import Derived.Test.YtnonfejhkbaikaaPKD
import Derived.KernelRfl
import Derived.Deep.Matrix
import Derived.SliceStrings
set_option linter.unusedVariables false
set_option linter.unusedSimpArgs false
namespace Go.Ab
def xJ : Array Value → Store → Option (Value × Store) := fun args M => if args.size = 0 then some (.bool true, M) else none
theorem EZ {P : Program} {call : ay} {f : FuncId} (hc : cE P f (call true f)) {M' : Store} (h : call true f #[] M00 = some (.bool true, M')) : cE P f xJ := by
 intro args M v M1 hg
 unfold xJ at hg
 split at hg
 ·rename_i ha
  injection hg with hg; injection hg with h1 h2; subst h1; subst h2
  obtain ⟨⟨hf, _⟩, h2⟩ := hc #[] M00 _ M' h
  refine ⟨⟨hf, Grow.refl _⟩, fun μ w cargs hG hR hargs => ?_⟩
  have hcs : cargs = #[] := by
   apply Array.toList_inj.1
   have := hargs.1
   apply List.length_eq_zero_iff.1
   rw [this]; simpa using ha
  subst hcs
  refine (h2 uY w #[] (GZ hG.gsh) (yo w hG.gsh) (LRel.nil _)).mono fun e w' ⟨cv, he, μ', hR', hS, hv⟩ => ?_
  have hb := hS.below (fun _ _ h => (mC h).1)
  obtain ⟨t, _, hheap, _⟩ := hS.log
  have hheap : ∀ b, b < w.heap.size → w'.heap[b]? = w.heap[b]? := fun b hb => hheap b hb fun i _ l hl ho => by rw [(mC hl).1] at ho; cases ho
  refine ⟨.bool true, by rw [he, hv.bool], μ, ⟨fun i l hl => ?_, fun i l hl => ?_, hR.excl⟩, ⟨.refl _, Nat.le_refl _, hS.size, hS.os, hS.tape, hS.output, hS.shp, [], rfl, fun b hb _ => hheap b hb, fun i l hl => .inl hl⟩, rfl⟩
  ·exact ⟨(hR.dom i l hl).1, Nat.lt_of_lt_of_le (hR.dom i l hl).2 hS.size⟩
  ·exact (hR.obj i l hl).mono (.refl _) hS.shp (hheap _ (hR.dom i l hl).2)
 ·cases hg
end Go.Ab

set_option linter.unusedVariables false
set_option linter.unusedSimpArgs false
namespace Go.Ab
section
variable (P : Program) (call : ay) (k : Nat) (rd : Option Nat)
end
def okB (x : Option (Value × Store)) : Bool := match x with
 | some (.bool b, _) => b
 | _ => false
theorem IU {x : Option (Value × Store)} (h : okB x = true) : ∃ M', x = some (.bool true, M') := by
 unfold okB at h
 split at h
 ·subst h; exact ⟨_, rfl⟩
 ·cases h
end Go.Ab

set_option linter.unusedVariables false
set_option linter.unusedSimpArgs false
namespace Go.Ab
structure Ch (S : List Nat) (M M' : Store) : Prop where
 n : M.n ≤ M'.n
 get : ∀ i, i < M.n → i ∉ S → M'.get i = M.get i
 log : ∃ t, M'.log = t ++ M.log ∧ ∀ b ∈ t, M.n ≤ b ∨ b ∈ S
abbrev Up (M M' : Store) : Prop := Ch [] M M'
theorem Ch.refl (S : List Nat) (M : Store) : Ch S M M := ⟨Nat.le_refl _, fun _ _ _ => rfl, [], rfl, fun _ h => by cases h⟩
theorem Ch.trans' {S S' : List Nat} {M M1 M2 : Store} (h : Ch S M M1) (k : Ch S' M1 M2) (hs : ∀ b ∈ S', b ∈ S ∨ M.n ≤ b) : Ch S M M2 := by
 obtain ⟨t, ht, h1⟩ := h.log
 obtain ⟨t', ht', h2⟩ := k.log
 refine ⟨Nat.le_trans h.n k.n, fun i hi hn => ?_, t' ++ t, by rw [ht', ht, List.append_assoc], fun b hb => ?_⟩
 ·rw [k.get i (Nat.lt_of_lt_of_le hi h.n) (fun hm => by rcases hs i hm with h3 | h3; exact hn h3; omega), h.get i hi hn]
 ·rcases List.mem_append.1 hb with hb | hb
  ·rcases h2 b hb with h3 | h3
   ·exact .inl (Nat.le_trans h.n h3)
   ·exact (hs b h3).symm
  ·exact h1 b hb
theorem Ch.trans {S : List Nat} {M M1 M2 : Store} (h : Ch S M M1) (k : Ch S M1 M2) : Ch S M M2 := h.trans' k fun _ hb => .inl hb
theorem Ch.up {S : List Nat} {M M1 M2 : Store} (h : Ch S M M1) (k : Up M1 M2) : Ch S M M2 := h.trans' k fun _ hb => by cases hb
theorem Up.ch {S : List Nat} {M M1 M2 : Store} (h : Up M M1) (k : Ch S M1 M2) (hs : ∀ b ∈ S, M.n ≤ b) : Up M M2 := h.trans' k fun b hb => .inr (hs b hb)
theorem Ch.mono {S S' : List Nat} {M M' : Store} (h : Ch S M M') (hs : ∀ b ∈ S, b ∈ S') : Ch S' M M' := by
 obtain ⟨t, ht, h1⟩ := h.log
 exact ⟨h.n, fun i hi hn => h.get i hi fun hm => hn (hs _ hm), t, ht, fun b hb => (h1 b hb).imp id (hs b)⟩
theorem Up.any {S : List Nat} {M M' : Store} (h : Up M M') : Ch S M M' := h.mono fun _ hb => by cases hb
theorem Up.push (M : Store) (o : bh) : Up M (M.push o) :=
 ⟨Nat.le_succ _, fun i hi _ => Store.get_push_ne M o (Nat.ne_of_lt hi), [], rfl, fun _ h => by cases h⟩
theorem Up.push' {M M1 : Store} (h : Up M M1) (o : bh) : Up M (M1.push o) := h.trans (Up.push _ _)
theorem Ch.set {M : Store} {b : Nat} {x} (hb : M.get b = some x) (o : bh) : Ch [b] M (M.set b o) :=
 ⟨by simp, fun i hi hn => Store.get_set_ne M o (fun e => hn (by simp [e])), [b], Store.set_log M o hb, fun c hc => .inr hc⟩
theorem Up.set {M M1 : Store} (h : Up M M1) {b : Nat} {x} (hb : M1.get b = some x) (hn : M.n ≤ b) (o : bh) : Up M (M1.set b o) :=
 h.ch (Ch.set hb o) fun c hc => by simp at hc; omega
theorem Up.get {M M' : Store} (h : Up M M') {i : Nat} {x} (hi : M.get i = some x) : M'.get i = some x := by
 rw [Ch.get h i (M.lt_of_get hi) (by simp), hi]
theorem Ch.tdiff {S : List Nat} {M M' : Store} (h : Ch S M M') : ∀ b ∈ tdiff M M', M.n ≤ b ∨ b ∈ S := by
 obtain ⟨t, ht, h1⟩ := h.log
 intro b hb
 unfold Go.Ab.tdiff at hb
 rw [ht] at hb
 have e : (t ++ M.log).length - M.log.length = t.length := by simp
 rw [e, List.take_left'] at hb
 ·exact h1 b hb
 ·rfl
theorem Up.fr {M M' : Store} (h : Up M M') : ∀ b ∈ Go.Ab.tdiff M M', M.n ≤ b := fun b hb => by
 rcases h.tdiff b hb with h | h
 ·exact h
 ·cases h
theorem Up.le {M M' : Store} (h : Up M M') : M.n ≤ M'.n := Ch.n h
theorem Up.tdx {M M' : Store} (h : Up M M') (bs Ns : List Nat) (i : Nat) : TDx bs Ns i M M' := ⟨h.le, fun b hb => .inl (h.fr b hb)⟩
theorem Up.tdj {M M' : Store} (h : Up M M') (js Ns : List Nat) : TDj js Ns M M' := ⟨h.le, fun b hb => .inl (h.fr b hb)⟩
structure Sl (s : Nat) (e : TypeId) (M : Store) (v : Value) (n : Nat) (cs : List Value) : Prop where
 len : cs.length = n * s
 is : ∃ a c, v = .slice a n c ∧ (∀ x, a = some x → x.spot = none) ∧
  (0 < n → ∃ b o cells e' own, a = some ⟨b, o, none⟩ ∧ M.get b = some (.inl (cells, e', own)) ∧ (own = true → e' = e) ∧ o + n * s ≤ cells.length ∧ (cells.drop o).take (n * s) = cs)
theorem Sl.up {s e M M' v n cs} (h : Sl s e M v n cs) (k : Up M M') : Sl s e M' v n cs := by
 obtain ⟨h1, a, c, h2, h3, h4⟩ := h
 refine ⟨h1, a, c, h2, h3, fun hn => ?_⟩
 obtain ⟨b, o, cells, e', own, h5, h6, h7⟩ := h4 hn
 exact ⟨b, o, cells, e', own, h5, k.get h6, h7⟩
theorem Sl.nil (s e M) : Sl s e M (.slice none 0 0) 0 [] := ⟨by simp, none, 0, rfl, (fun _ h => by cases h), fun h => absurd h (Nat.lt_irrefl 0)⟩
theorem Sl.lenV {s e M v n cs} (h : Sl s e M v n cs) : lenV v = some (.int .i64 (n : Int)) := by
 obtain ⟨_, a, c, rfl, _⟩ := h; rfl
theorem Sl.slice {s e M v n cs} (h : Sl s e M v n cs) : ∃ a c, v = .slice a n c := by
 obtain ⟨_, a, c, rfl, _⟩ := h; exact ⟨_, _, rfl⟩
theorem jS {M : Store} {b o k : Nat} {cells : List Value} {e' : TypeId} {own : Bool} (h : M.get b = some (.inl (cells, e', own))) (hl : o + k ≤ cells.length) : eE M b o k = some ((cells.drop o).take k) := by
 unfold eE; rw [h]; simp only [if_pos hl]
theorem Sl.at {s e M v n cs} (h : Sl s e M v n cs) {i : Nat} (hi : i < n) (k : IntKind) : ∃ p, ixA s v (.int k (i : Int)) = some p ∧ ∀ agg, ld s agg p M = uV agg ((cs.drop (i * s)).take s) := by
 obtain ⟨h1, a, c, rfl, h3, h4⟩ := h
 obtain ⟨b, o, cells, e', own, rfl, h6, h7, h8, h9⟩ := h4 (by omega)
 refine ⟨.pointer (some ⟨b, o + i * s, none⟩), ?_, fun agg => ?_⟩
 ·simp only [ixA]
  rw [if_pos ⟨by omega, by omega, trivial⟩]; simp
 ·simp only [ld]
  have hb : i * s + s ≤ n * s := by
   have := Nat.mul_le_mul_right s (show i + 1 ≤ n by omega)
   rw [Nat.add_mul, Nat.one_mul] at this; exact this
  rw [jS h6 (by omega), Option.bind_some, ← h9, List.drop_take, List.drop_drop, List.take_take]
  congr 2
  omega
theorem se (b o k : Nat) : (⟨b, o, none⟩ : Addr).add k = ⟨b, o + k, none⟩ := by
 simp only [Addr.add]; split <;> simp [*]
theorem Sl.cut {s e M v n cs} (h : Sl s e M v n cs) {lo hi : Option Value} {l r : Nat} (hhi : ar hi n n = some r) (hlo : ar lo r 0 = some l) (hr : r ≤ n) (hl : l ≤ r) :
    ∃ v', slV s e v lo hi M = some v' ∧ Sl s e M v' (r - l) ((cs.drop (l * s)).take ((r - l) * s)) := by
 obtain ⟨h1, a, c, rfl, h3, h4⟩ := h
 have hlen : ((cs.drop (l * s)).take ((r - l) * s)).length = (r - l) * s := by
  have h5 : l * s + (r - l) * s ≤ n * s := by
   rw [← Nat.add_mul]; exact Nat.mul_le_mul_right s (by omega)
  simp; omega
 simp only [slV, hhi, hlo, Option.bind_some]
 by_cases hn : l = r
 ·subst hn
  simp only [decide_true, Bool.true_or, if_true]
  refine ⟨_, rfl, hlen, _, _, rfl, ?_, fun h => by omega⟩
  intro x hx
  cases a with
  | none => cases hx
  | some y => simp at hx; subst hx; have := h3 y rfl; simp only [Addr.add]; split <;> simp [this]
 ·obtain ⟨b, o, cells, e', own, rfl, h6, h7, h8, h9⟩ := h4 (by omega)
  have hel : b9 M (some ⟨b, o, none⟩) e = true := by
   simp only [b9, h6]
   cases own with
   | false => rfl
   | true => simp [h7 rfl]
  rw [hel, Bool.or_true, if_pos rfl]
  refine ⟨_, rfl, hlen, _, _, rfl, ?_, fun _ => ⟨b, o + l * s, cells, e', own, by rw [Option.map_some, se], h6, h7, ?_, ?_⟩⟩
  ·intro x hx; rw [Option.map_some, se] at hx; injection hx with hx; subst hx; rfl
  ·have h5 : l * s + (r - l) * s ≤ n * s := by
     rw [← Nat.add_mul]; exact Nat.mul_le_mul_right s (by omega)
   omega
  ·have h5 : l * s + (r - l) * s ≤ n * s := by
     rw [← Nat.add_mul]; exact Nat.mul_le_mul_right s (by omega)
   rw [← h9, List.drop_take, List.drop_drop, List.take_take]
   congr 1
   omega
theorem Sl.newV {s e M v n cs} (h : Sl s e M v n cs) : newV s v M = some (n, cs) := by
 obtain ⟨h1, a, c, rfl, h3, h4⟩ := h
 by_cases hn : n = 0
 ·subst hn
  have : cs = [] := List.length_eq_zero_iff.1 (by simpa using h1)
  subst this
  cases a with
  | none => rfl
  | some x => obtain ⟨b, o, sp⟩ := x; have := h3 _ rfl; simp only at this; subst this; rfl
 ·obtain ⟨b, o, cells, e', own, rfl, h6, h7, h8, h9⟩ := h4 (by omega)
  simp only [Go.Ab.newV, if_neg hn]
  rw [jS h6 h8, h9]; rfl
structure Nw (s : Nat) (e : TypeId) (M0 M : Store) (v : Value) (n : Nat) (cs : List Value) : Prop where
 len : cs.length = n * s
 is : (n = 0 ∧ ∃ a, v = .slice a 0 0 ∧ ∀ x, a = some x → x.spot = none) ∨
  ∃ b cells c, v = .slice (some ⟨b, 0, none⟩) n c ∧ M0.n ≤ b ∧ M.get b = some (.inl (cells, e, true)) ∧ n * s ≤ cells.length ∧ cells.take (n * s) = cs ∧ (c = n ∨ c = n + 1)
theorem Nw.sl {s e M0 M v n cs} (h : Nw s e M0 M v n cs) : Sl s e M v n cs := by
 obtain ⟨h1, ⟨rfl, a, rfl, h2⟩ | ⟨b, cells, c, rfl, h2, h3, h4, h5, h6⟩⟩ := h
 ·exact ⟨h1, a, 0, rfl, h2, fun h => by omega⟩
 ·exact ⟨h1, _, c, rfl, fun x hx => by simp at hx; subst hx; rfl, fun _ => ⟨b, 0, cells, e, true, rfl, h3, fun _ => rfl, by omega, by simpa using h5⟩⟩
theorem Nw.up {s e M0 M M' v n cs} (h : Nw s e M0 M v n cs) (k : Up M M') : Nw s e M0 M' v n cs := by
 obtain ⟨h1, h | ⟨b, cells, c, h2, h3, h4, h5⟩⟩ := h
 ·exact ⟨h1, .inl h⟩
 ·exact ⟨h1, .inr ⟨b, cells, c, h2, h3, k.get h4, h5⟩⟩
theorem Nw.base {s e M0 M1 M v n cs} (h : Nw s e M1 M v n cs) (k : M0.n ≤ M1.n) : Nw s e M0 M v n cs := by
 obtain ⟨h1, h | ⟨b, cells, c, h2, h3, h4, h5⟩⟩ := h
 ·exact ⟨h1, .inl h⟩
 ·exact ⟨h1, .inr ⟨b, cells, c, h2, Nat.le_trans k h3, h4, h5⟩⟩
theorem Nw.nil (s e M0 M) : Nw s e M0 M (.slice none 0 0) 0 [] := ⟨by simp, .inl ⟨rfl, none, rfl, fun _ h => by cases h⟩⟩
theorem Nw.lit {s e : Nat} {M0 M : Store} (hu : M0.n ≤ M.n) {n : Nat} {cs : List Value} (hl : cs.length = n * s) : Nw s e M0 (M.push (some (.inl (cs, e, true)))) (.slice (some ⟨M.n, 0, none⟩) n n) n cs :=
 ⟨hl, .inr ⟨M.n, cs, n, rfl, hu, Store.get_push_eq _ _, by omega, by rw [← hl]; simp, .inl rfl⟩⟩
theorem Nw.lit1 {s e : Nat} {M0 M : Store} (hu : M0.n ≤ M.n) {n : Nat} {cs : List Value} (hl : cs.length = n * s) : Nw s e M0 (M.push (some (.inl (cs, e, true)))) (.slice (some ⟨M.n, 0, none⟩) n (n + 1)) n cs :=
 ⟨hl, .inr ⟨M.n, cs, n + 1, rfl, hu, Store.get_push_eq _ _, by omega, by rw [← hl]; simp, .inr rfl⟩⟩
def kil (v : Value) : Option Nat := match v with
 | .slice (some a) n c => if c = n then none else some a.block
 | _ => none
abbrev kl (v : Value) : List Nat := (kil v).toList
theorem Nw.appG2 {s e M0 Mb M v n cs} (hu : Up M0 M) (h0b : M0.n ≤ Mb.n) (hbm : Mb.n ≤ M.n) (h : Nw s e Mb M v n cs) {m : Nat} {ys : List Value} (hm : ys.length = m * s) (hz : n + m ≤ 2 ^ 28) :
    ∃ v' M', appG s e v (m, ys) M = some (v', M') ∧ Up M0 M' ∧ Nw s e Mb M' v' (n + m) (cs ++ ys) ∧ M.n ≤ M'.n ∧ (∀ i, i < M.n → kil v ≠ some i → M'.get i = M.get i) ∧ Ch (kl v) M M' := by
 obtain ⟨h1, hd⟩ := h
 have hlen : (cs ++ ys).length = (n + m) * s := by rw [List.length_append, h1, hm, Nat.add_mul]
 by_cases h0 : m = 0
 ·subst h0
  have hy : ys = [] := List.length_eq_zero_iff.1 (by simpa using hm)
  subst hy
  refine ⟨v, M, ?_, hu, by simpa using (⟨h1, hd⟩ : Nw s e Mb M v n cs), Nat.le_refl _, fun _ _ _ => rfl, Ch.refl _ _⟩
  rcases hd with ⟨rfl, a, rfl, h2⟩ | ⟨b, cells, c, rfl, h2⟩
  ·simp [Go.Ab.appG]
  ·simp [Go.Ab.appG]
 ·have fresh : ∀ M1 : Store, M.n = M1.n → Up M0 M1 → (∀ i, i < M.n → kil v ≠ some i → M1.get i = M.get i) → Ch (kl v) M M1 →
      ∃ v' M', some (Value.slice (some ⟨M.n, 0, none⟩) (n + m) (n + m + 1), M1.push (some (.inl (cs ++ ys, e, true)))) = some (v', M') ∧ Up M0 M' ∧ Nw s e Mb M' v' (n + m) (cs ++ ys) ∧ M.n ≤ M'.n ∧ (∀ i, i < M.n → kil v ≠ some i → M'.get i = M.get i) ∧ Ch (kl v) M M' := by
    intro M1 hn hu1 hg hch
    refine ⟨_, _, rfl, hu1.push' _, ?_, by simp; omega, (fun i hi hb => by rw [Store.get_push_ne _ _ (by omega), hg i hi hb]), hch.up (Up.push _ _)⟩
    rw [hn]
    exact Nw.lit1 (by omega) hlen
  rcases hd with ⟨rfl, a, rfl, h2⟩ | ⟨b, cells, c, rfl, h2, h3, h4, h5, h6⟩
  ·have hc : cs = [] := List.length_eq_zero_iff.1 (by simpa using h1)
   subst hc
   simp only [Go.Ab.appG, if_neg h0, if_pos hz]
   have := fresh M rfl hu (fun _ _ _ => rfl) (Ch.refl _ _)
   cases a with
   | none => simpa [cN] using this
   | some x => obtain ⟨b, o, sp⟩ := x; have h7 := h2 _ rfl; simp only at h7; subst h7; simpa [cN] using this
  ·simp only [Go.Ab.appG, if_neg h0, if_pos hz]
   rcases h6 with rfl | rfl
   ·simp only [cN, if_true]
    by_cases hn : c = 0
    ·subst hn
     have hc : cs = [] := List.length_eq_zero_iff.1 (by simpa using h1)
     subst hc
     have := fresh M rfl hu (fun _ _ _ => rfl) (Ch.refl _ _)
     simpa using this
    ·rw [if_neg hn, jS h3 (by omega)]
     simp only [List.drop_zero, h5, Option.bind_some]
     exact fresh M rfl hu (fun _ _ _ => rfl) (Ch.refl _ _)
   ·simp only [cN]
    rw [if_neg (by omega), if_pos trivial]
    simp only [h3]
    rw [if_pos ⟨trivial, h4, trivial⟩, h5]
    refine fresh (M.set b none) (by simp) (hu.set h3 (Nat.le_trans h0b h2) _) (fun i hi hb => Store.get_set_ne _ _ (fun e => hb ?_)) ?_
    ·simp [kil, e]
    ·have : kl (.slice (some ⟨b, 0, none⟩) n (n + 1)) = [b] := by simp [kl, kil]
     rw [this]; exact Ch.set h3 _
theorem Nw.appG {s e M0 M v n cs} (hu : Up M0 M) (h : Nw s e M0 M v n cs) {m : Nat} {ys : List Value} (hm : ys.length = m * s) (hz : n + m ≤ 2 ^ 28) :
    ∃ v' M', appG s e v (m, ys) M = some (v', M') ∧ Up M0 M' ∧ Nw s e M0 M' v' (n + m) (cs ++ ys) ∧ M.n ≤ M'.n ∧ (∀ i, i < M.n → kil v ≠ some i → M'.get i = M.get i) ∧ Ch (kl v) M M' :=
 Nw.appG2 hu (Nat.le_refl _) hu.le h hm hz
theorem Nw.kil_ge {s e Mb M v n cs} (h : Nw s e Mb M v n cs) {i : Nat} (hi : kil v = some i) : Mb.n ≤ i := by
 obtain ⟨h1, ⟨rfl, a, rfl, h2⟩ | ⟨b, cells, c, rfl, h2, h3, h4⟩⟩ := h
 ·cases a <;> simp [kil] at hi
 ·simp only [kil] at hi
  split at hi
  ·cases hi
  ·injection hi with hi; subst hi; exact h2
theorem Nw.appV2 {s e M0 Mb M v n cs} (hu : Up M0 M) (h0b : M0.n ≤ Mb.n) (hbm : Mb.n ≤ M.n) (h : Nw s e Mb M v n cs) {e' : TypeId} {x : Value} {m : Nat} {ys : List Value} (hx : Sl s e' M x m ys) (hz : n + m ≤ 2 ^ 28) :
    ∃ v' M', appV s e v x M = some (v', M') ∧ Up M0 M' ∧ Nw s e Mb M' v' (n + m) (cs ++ ys) ∧ M.n ≤ M'.n ∧ (∀ i, i < M.n → kil v ≠ some i → M'.get i = M.get i) ∧ Ch (kl v) M M' := by
 simp only [Go.Ab.appV, hx.newV, Option.bind_some]
 exact h.appG2 hu h0b hbm hx.len hz
theorem Nw.appV {s e M0 M v n cs} (hu : Up M0 M) (h : Nw s e M0 M v n cs) {e' : TypeId} {x : Value} {m : Nat} {ys : List Value} (hx : Sl s e' M x m ys) (hz : n + m ≤ 2 ^ 28) :
    ∃ v' M', appV s e v x M = some (v', M') ∧ Up M0 M' ∧ Nw s e M0 M' v' (n + m) (cs ++ ys) ∧ M.n ≤ M'.n ∧ (∀ i, i < M.n → kil v ≠ some i → M'.get i = M.get i) ∧ Ch (kl v) M M' := by
 simp only [Go.Ab.appV, hx.newV, Option.bind_some]
 exact h.appG hu hx.len hz
def bv (x : UInt8) : Value := .int .u8 (x.toNat : Int)
abbrev By (e : TypeId) (M : Store) (v : Value) (l : List UInt8) : Prop := Sl 1 e M v l.length (l.map bv)
abbrev NB (e : TypeId) (M0 M : Store) (v : Value) (l : List UInt8) : Prop := Nw 1 e M0 M v l.length (l.map bv)
theorem By.at {e M v l} (h : By e M v l) {i : Nat} (hi : i < l.length) (k : IntKind) : ∃ p, ixA 1 v (.int k (i : Int)) = some p ∧ ld 1 false p M = some (bv l[i]) := by
 obtain ⟨p, h1, h2⟩ := Sl.at h hi k
 refine ⟨p, h1, ?_⟩
 rw [h2 false]
 have : ((l.map bv).drop (i * 1)).take 1 = [bv l[i]] := by
  rw [Nat.mul_one, ← List.map_drop, ← List.map_take, List.drop_eq_getElem_cons hi]; rfl
 rw [this]; rfl
theorem By.cut {e M v l} (h : By e M v l) {lo hi : Option Value} {a r : Nat} (hhi : ar hi l.length l.length = some r) (hlo : ar lo r 0 = some a) (hr : r ≤ l.length) (ha : a ≤ r) :
    ∃ v', slV 1 e v lo hi M = some v' ∧ By e M v' ((l.take r).drop a) := by
 obtain ⟨v', h1, h2⟩ := Sl.cut h hhi hlo hr ha
 refine ⟨v', h1, ?_⟩
 have e1 : ((l.take r).drop a).length = r - a := by simp; omega
 have e2 : ((l.map bv).drop (a * 1)).take ((r - a) * 1) = ((l.take r).drop a).map bv := by
  simp only [Nat.mul_one]
  rw [List.map_drop, List.map_take, List.drop_take]
 unfold By
 rw [e1, ← e2]; exact h2
theorem NB.by {e M0 M v l} (h : NB e M0 M v l) : By e M v l := Nw.sl h
theorem NB.app {e M0 M v l} (hu : Up M0 M) (h : NB e M0 M v l) {e' x k} (hx : By e' M x k) (hz : l.length + k.length ≤ 2 ^ 28) :
    ∃ v' M', Go.Ab.appV 1 e v x M = some (v', M') ∧ Up M0 M' ∧ NB e M0 M' v' (l ++ k) ∧ M.n ≤ M'.n ∧ (∀ i, i < M.n → kil v ≠ some i → M'.get i = M.get i) ∧ Ch (kl v) M M' := by
 have := Nw.appV hu h hx hz
 unfold NB
 rw [List.length_append, List.map_append]
 exact this
def Each {α : Type} (E : Value → α → Prop) : List Value → List α → Prop
 | [], [] => True
 | v :: vs, x :: xs => E v x ∧ Each E vs xs
 | _, _ => False
theorem Each.length {α : Type} {E : Value → α → Prop} : ∀ {vs : List Value} {xs : List α}, Each E vs xs → vs.length = xs.length
 | [], [], _ => rfl
 | _ :: _, _ :: _, h => by simp [Each.length h.2]
 | [], _ :: _, h => h.elim
 | _ :: _, [], h => h.elim
theorem Each.get {α : Type} {E : Value → α → Prop} : ∀ {vs : List Value} {xs : List α}, Each E vs xs → ∀ i (h : i < xs.length), ∃ w, vs[i]? = some w ∧ E w xs[i]
 | [], [], _, i, h => by simp at h
 | v :: _, _ :: _, h, 0, _ => ⟨v, rfl, h.1⟩
 | _ :: _, _ :: _, h, i + 1, hi => Each.get h.2 i (by simpa using hi)
 | [], _ :: _, h, _, _ => h.elim
 | _ :: _, [], h, _, _ => h.elim
theorem Each.mono {α : Type} {E E' : Value → α → Prop} (k : ∀ v x, E v x → E' v x) : ∀ {vs : List Value} {xs : List α}, Each E vs xs → Each E' vs xs
 | [], [], _ => trivial
 | _ :: _, _ :: _, h => ⟨k _ _ h.1, Each.mono k h.2⟩
 | [], _ :: _, h => h.elim
 | _ :: _, [], h => h.elim
theorem Each.append {α : Type} {E : Value → α → Prop} : ∀ {vs ws : List Value} {xs ys : List α}, Each E vs xs → Each E ws ys → Each E (vs ++ ws) (xs ++ ys)
 | [], _, [], _, _, k => k
 | _ :: _, _, _ :: _, _, h, k => ⟨h.1, Each.append h.2 k⟩
 | [], _, _ :: _, _, h, _ => h.elim
 | _ :: _, _, [], _, h, _ => h.elim
theorem Each.drop {α : Type} {E : Value → α → Prop} : ∀ {vs : List Value} {xs : List α} (n : Nat), Each E vs xs → Each E (vs.drop n) (xs.drop n)
 | _, _, 0, h => h
 | [], [], _ + 1, _ => trivial
 | _ :: _, _ :: _, n + 1, h => Each.drop n h.2
 | [], _ :: _, _ + 1, h => h.elim
 | _ :: _, [], _ + 1, h => h.elim
theorem Each.take {α : Type} {E : Value → α → Prop} : ∀ {vs : List Value} {xs : List α} (n : Nat), Each E vs xs → Each E (vs.take n) (xs.take n)
 | _, _, 0, _ => by simp [Each]
 | [], [], _ + 1, _ => trivial
 | _ :: _, _ :: _, n + 1, h => ⟨h.1, Each.take n h.2⟩
 | [], _ :: _, _ + 1, h => h.elim
 | _ :: _, [], _ + 1, h => h.elim
def Ls {α : Type} (E : Store → Value → α → Prop) (e : TypeId) (M : Store) (v : Value) (xs : List α) : Prop := ∃ vs, Sl 1 e M v xs.length vs ∧ Each (E M) vs xs
def NLs {α : Type} (E : Store → Value → α → Prop) (e : TypeId) (M0 M : Store) (v : Value) (xs : List α) : Prop := ∃ vs, Nw 1 e M0 M v xs.length vs ∧ Each (E M) vs xs
theorem NLs.ls {α : Type} {E : Store → Value → α → Prop} {e M0 M v} {xs : List α} (h : NLs E e M0 M v xs) : Ls E e M v xs := by
 obtain ⟨vs, h1, h2⟩ := h; exact ⟨vs, h1.sl, h2⟩
theorem NLs.nil {α : Type} {E : Store → Value → α → Prop} {e M0 M} : NLs (α := α) E e M0 M (.slice none 0 0) [] := ⟨[], Nw.nil _ _ _ _, trivial⟩
theorem Ls.up {α : Type} {E : Store → Value → α → Prop} (hE : ∀ M M' v x, E M v x → Up M M' → E M' v x) {e M M' v} {xs : List α} (h : Ls E e M v xs) (k : Up M M') : Ls E e M' v xs := by
 obtain ⟨vs, h1, h2⟩ := h; exact ⟨vs, h1.up k, h2.mono fun v x h => hE _ _ _ _ h k⟩
theorem NLs.up {α : Type} {E : Store → Value → α → Prop} (hE : ∀ M M' v x, E M v x → Up M M' → E M' v x) {e M0 M M' v} {xs : List α} (h : NLs E e M0 M v xs) (k : Up M M') : NLs E e M0 M' v xs := by
 obtain ⟨vs, h1, h2⟩ := h; exact ⟨vs, h1.up k, h2.mono fun v x h => hE _ _ _ _ h k⟩
theorem NLs.base {α : Type} {E : Store → Value → α → Prop} {e M0 M1 M v} {xs : List α} (h : NLs E e M1 M v xs) (k : M0.n ≤ M1.n) : NLs E e M0 M v xs := by
 obtain ⟨vs, h1, h2⟩ := h; exact ⟨vs, h1.base k, h2⟩
theorem Ls.lenV {α : Type} {E : Store → Value → α → Prop} {e M v} {xs : List α} (h : Ls E e M v xs) : Go.Ab.lenV v = some (.int .i64 (xs.length : Int)) := by
 obtain ⟨vs, h1, _⟩ := h; exact h1.lenV
theorem Ls.at {α : Type} {E : Store → Value → α → Prop} {e M v} {xs : List α} (h : Ls E e M v xs) {i : Nat} (hi : i < xs.length) (k : IntKind) : ∃ p w, ixA 1 v (.int k (i : Int)) = some p ∧ ld 1 false p M = some w ∧ E M w xs[i] := by
 obtain ⟨vs, h1, h2⟩ := h
 obtain ⟨w, hw, hE⟩ := h2.get i hi
 obtain ⟨p, h3, h4⟩ := h1.at hi k
 refine ⟨p, w, h3, ?_, hE⟩
 have hl : i < vs.length := (List.getElem?_eq_some_iff.1 hw).1
 rw [h4 false, Nat.mul_one, List.drop_eq_getElem_cons hl]
 have : vs[i] = w := (List.getElem?_eq_some_iff.1 hw).2
 rw [this]; rfl
theorem Ls.cut {α : Type} {E : Store → Value → α → Prop} {e M v} {xs : List α} (h : Ls E e M v xs) {lo hi : Option Value} {a r : Nat} (hhi : ar hi xs.length xs.length = some r) (hlo : ar lo r 0 = some a) (hr : r ≤ xs.length) (ha : a ≤ r) :
    ∃ v', slV 1 e v lo hi M = some v' ∧ Ls E e M v' ((xs.take r).drop a) := by
 obtain ⟨vs, h1, h2⟩ := h
 obtain ⟨v', h3, h4⟩ := Sl.cut h1 hhi hlo hr ha
 have e1 : ((xs.take r).drop a).length = r - a := by simp; omega
 refine ⟨v', h3, (vs.take r).drop a, ?_, (h2.take r).drop a⟩
 rw [e1, List.drop_take]
 simpa using h4
def Keep (e : TypeId) (M M' : Store) : Prop := M.n ≤ M'.n ∧ ∀ i x, M.get i = some x → (∀ cells, x ≠ .inl (cells, e, true)) → M'.get i = some x
theorem Up.keep {e : TypeId} {M M' : Store} (h : Up M M') : Keep e M M' := ⟨h.le, fun i x hi _ => h.get hi⟩
theorem Keep.trans {e : TypeId} {M M1 M2 : Store} (h : Keep e M M1) (k : Keep e M1 M2) : Keep e M M2 := ⟨Nat.le_trans h.1 k.1, fun i x hi hx => k.2 i x (h.2 i x hi hx) hx⟩
theorem Sl.keep {s e' M M' v n cs} (h : Sl s e' M v n cs) {e : TypeId} (hne : e' ≠ e) (k : Keep e M M') : Sl s e' M' v n cs := by
 obtain ⟨h1, a, c, h2, h3, h4⟩ := h
 refine ⟨h1, a, c, h2, h3, fun hn => ?_⟩
 obtain ⟨b, o, cells, t, own, h5, h6, h7, h8⟩ := h4 hn
 refine ⟨b, o, cells, t, own, h5, k.2 _ _ h6 ?_, h7, h8⟩
 intro cells' he
 injection he with he
 simp only [Prod.mk.injEq] at he
 obtain ⟨_, rfl, rfl⟩ := he
 exact hne (h7 rfl).symm
theorem Nw.keep {s e' M0 M M' v n cs} (h : Nw s e' M0 M v n cs) {e : TypeId} (hne : e' ≠ e) (k : Keep e M M') : Nw s e' M0 M' v n cs := by
 obtain ⟨h1, h | ⟨b, cells, c, h2, h3, h4, h5⟩⟩ := h
 ·exact ⟨h1, .inl h⟩
 ·refine ⟨h1, .inr ⟨b, cells, c, h2, h3, k.2 _ _ h4 ?_, h5⟩⟩
  intro cells' he
  injection he with he
  simp only [Prod.mk.injEq] at he
  exact hne he.2.1
theorem Nw.keeps {s e M0 M v n cs} (h : Nw s e M0 M v n cs) {M' : Store} (hn : M.n ≤ M'.n) (hf : ∀ i, i < M.n → kil v ≠ some i → M'.get i = M.get i) : Keep e M M' := by
 refine ⟨hn, fun i x hi hx => ?_⟩
 rw [hf i (M.lt_of_get hi) ?_, hi]
 intro hb
 obtain ⟨h1, ⟨rfl, a, rfl, h2⟩ | ⟨b, cells, c, rfl, h2, h3, h4⟩⟩ := h
 ·cases a <;> simp [kil] at hb
 ·simp only [kil] at hb
  split at hb
  ·cases hb
  injection hb with hb
  subst hb
  rw [h3] at hi
  injection hi with hi
  exact hx _ hi.symm
theorem NLs.app1 {α : Type} {E : Store → Value → α → Prop} {e M0 M v w} {xs : List α} {x : α} (hE : ∀ M M' v x, E M v x → Keep e M M' → E M' v x) (hu : Up M0 M) (h : NLs E e M0 M v xs) (hx : E M w x) (hz : xs.length + 1 ≤ 2 ^ 28) :
    ∃ v' M', Go.Ab.appV 1 e v (.slice (some ⟨M.n, 0, none⟩) 1 1) (M.push (some (.inl ([w], e, true)))) = some (v', M') ∧ Up M0 M' ∧ NLs E e M0 M' v' (xs ++ [x]) ∧ Keep e M M' := by
 obtain ⟨vs, h1, h2⟩ := h
 have hw : Nw 1 e M0 (M.push (some (.inl ([w], e, true)))) (.slice (some ⟨M.n, 0, none⟩) 1 1) 1 [w] := Nw.lit (n := 1) hu.le (by simp)
 have h1' := h1.up (Up.push M (some (.inl ([w], e, true))))
 obtain ⟨v', M', e1, hu', hN, hn, hf, _⟩ := Nw.appV (hu.push' _) h1' hw.sl hz
 have hk : Keep e M M' := (Up.push M (some (.inl ([w], e, true)))).keep.trans (h1'.keeps hn hf)
 exact ⟨v', M', e1, hu', ⟨vs ++ [w], by simpa using hN, (h2.mono fun v x h => hE _ _ _ _ h hk).append ⟨hE _ _ _ _ hx hk, trivial⟩⟩, hk⟩
theorem NLs.app2 {α : Type} {E : Store → Value → α → Prop} {e M0 Mb M v w} {xs : List α} {x : α} (hE : ∀ M M' v x, E M v x → Keep e M M' → E M' v x) (hu : Up M0 M) (h0b : M0.n ≤ Mb.n) (hbm : Mb.n ≤ M.n) (h : NLs E e Mb M v xs) (hx : E M w x) (hz : xs.length + 1 ≤ 2 ^ 28) :
    ∃ v' M', Go.Ab.appV 1 e v (.slice (some ⟨M.n, 0, none⟩) 1 1) (M.push (some (.inl ([w], e, true)))) = some (v', M') ∧ Up M0 M' ∧ NLs E e Mb M' v' (xs ++ [x]) ∧ Keep e M M' ∧ (∀ i, i < Mb.n → M'.get i = M.get i) := by
 obtain ⟨vs, h1, h2⟩ := h
 have hw : Nw 1 e M0 (M.push (some (.inl ([w], e, true)))) (.slice (some ⟨M.n, 0, none⟩) 1 1) 1 [w] := Nw.lit (n := 1) hu.le (by simp)
 have h1' := h1.up (Up.push M (some (.inl ([w], e, true))))
 obtain ⟨v', M', e1, hu', hN, hn, hf, _⟩ := Nw.appV2 (hu.push' _) h0b (by simp; omega) h1' hw.sl hz
 have hk : Keep e M M' := (Up.push M (some (.inl ([w], e, true)))).keep.trans (h1'.keeps hn hf)
 refine ⟨v', M', e1, hu', ⟨vs ++ [w], by simpa using hN, (h2.mono fun v x h => hE _ _ _ _ h hk).append ⟨hE _ _ _ _ hx hk, trivial⟩⟩, hk, fun i hi => ?_⟩
 rw [hf i (by simp; omega) fun he => by have := h1.kil_ge he; omega, Store.get_push_ne _ _ (by omega)]
def KeepI (M M' : Store) : Prop := M.n ≤ M'.n ∧ ∀ i x, M.get i = some (.inl x) → M'.get i = some (.inl x)
theorem Up.keepI {M M' : Store} (h : Up M M') : KeepI M M' := ⟨h.le, fun i x hi => h.get hi⟩
theorem KeepI.trans {M M1 M2 : Store} (h : KeepI M M1) (k : KeepI M1 M2) : KeepI M M2 := ⟨Nat.le_trans h.1 k.1, fun i x hi => k.2 i x (h.2 i x hi)⟩
theorem KeepI.setR {M : Store} {b : Nat} {x} (hb : M.get b = some (.inr x)) (o : bh) : KeepI M (M.set b o) :=
 ⟨by simp, fun i y hi => by rw [Store.get_set_ne _ _ (fun e => by subst e; rw [hb] at hi; injection hi with hi; cases hi), hi]⟩
theorem Sl.keepI {s e M M' v n cs} (h : Sl s e M v n cs) (k : KeepI M M') : Sl s e M' v n cs := by
 obtain ⟨h1, a, c, h2, h3, h4⟩ := h
 refine ⟨h1, a, c, h2, h3, fun hn => ?_⟩
 obtain ⟨b, o, cells, t, own, h5, h6, h7, h8⟩ := h4 hn
 exact ⟨b, o, cells, t, own, h5, k.2 _ _ h6, h7, h8⟩
theorem Nw.keepI {s e M0 M M' v n cs} (h : Nw s e M0 M v n cs) (k : KeepI M M') : Nw s e M0 M' v n cs := by
 obtain ⟨h1, h | ⟨b, cells, c, h2, h3, h4, h5⟩⟩ := h
 ·exact ⟨h1, .inl h⟩
 ·exact ⟨h1, .inr ⟨b, cells, c, h2, h3, k.2 _ _ h4, h5⟩⟩
theorem NLs.keepI {α : Type} {E : Store → Value → α → Prop} (hE : ∀ M M' v x, E M v x → KeepI M M' → E M' v x) {e M0 M M' v} {xs : List α} (h : NLs E e M0 M v xs) (k : KeepI M M') : NLs E e M0 M' v xs := by
 obtain ⟨vs, h1, h2⟩ := h; exact ⟨vs, h1.keepI k, h2.mono fun v x h => hE _ _ _ _ h k⟩
theorem Ls.keepI {α : Type} {E : Store → Value → α → Prop} (hE : ∀ M M' v x, E M v x → KeepI M M' → E M' v x) {e M M' v} {xs : List α} (h : Ls E e M v xs) (k : KeepI M M') : Ls E e M' v xs := by
 obtain ⟨vs, h1, h2⟩ := h; exact ⟨vs, h1.keepI k, h2.mono fun v x h => hE _ _ _ _ h k⟩
theorem NLs.keep {α : Type} {E : Store → Value → α → Prop} {e' : TypeId} (hE : ∀ M M' v x, E M v x → Keep e' M M' → E M' v x) {e M0 M M' v} {xs : List α} (h : NLs E e M0 M v xs) (hne : e ≠ e') (k : Keep e' M M') : NLs E e M0 M' v xs := by
 obtain ⟨vs, h1, h2⟩ := h; exact ⟨vs, h1.keep hne k, h2.mono fun v x h => hE _ _ _ _ h k⟩
theorem Ls.keep {α : Type} {E : Store → Value → α → Prop} {e' : TypeId} (hE : ∀ M M' v x, E M v x → Keep e' M M' → E M' v x) {e M M' v} {xs : List α} (h : Ls E e M v xs) (hne : e ≠ e') (k : Keep e' M M') : Ls E e M' v xs := by
 obtain ⟨vs, h1, h2⟩ := h; exact ⟨vs, h1.keep hne k, h2.mono fun v x h => hE _ _ _ _ h k⟩
theorem Ch.at {S : List Nat} {M M' : Store} (h : Ch S M M') {i : Nat} {x} (hi : M.get i = some x) (hn : i ∉ S) : M'.get i = some x := by rw [h.get i (M.lt_of_get hi) hn, hi]
def Rc (M : Store) (l : Nat) (r : dF) : Prop := M.get l = some (.inr (.inr (some r)))
theorem Rc.of {M l r} (h : Rc M l r) : cR M l = some r := by
 unfold cR; rw [show M.get l = some (.inr (.inr (some r))) from h]
theorem Rc.put {M l r} (h : Rc M l r) (r' : dF) : Rc (bf M l r') l r' := Store.get_set_eq _ _ h
theorem Rc.ch {M l r} (h : Rc M l r) (r' : dF) : Ch [l] M (bf M l r') := Ch.set h _
theorem Rc.keepI {M l r} (h : Rc M l r) (r' : dF) : KeepI M (bf M l r') := KeepI.setR h _
theorem Rc.keep {M M' l r} {e : TypeId} (h : Rc M l r) (k : Keep e M M') : Rc M' l r := k.2 _ _ h fun _ he => by cases he
theorem Rc.up {M M' l r} (h : Rc M l r) (k : Up M M') : Rc M' l r := k.get h
def Ob (M : Store) (b : Nat) (cells : List Value) (T : TypeId) : Prop := M.get b = some (.inl (cells, T, true))
theorem Ob.ld {M b cells T} (h : Ob M b cells T) {o : Nat} {v : Value} (hv : cells[o]? = some v) : Go.Ab.ld 1 false (.pointer (some ⟨b, o, none⟩)) M = some v := by
 obtain ⟨hl, hv⟩ := List.getElem?_eq_some_iff.1 hv
 simp only [Go.Ab.ld]
 rw [jS h (by omega), Option.bind_some, List.drop_eq_getElem_cons hl, hv]; rfl
theorem Ob.ldA {M b cells T} (h : Ob M b cells T) {s : Nat} (hs : cells.length = s) : Go.Ab.ld s true (.pointer (some ⟨b, 0, none⟩)) M = some (.agg cells.toArray) := by
 simp only [Go.Ab.ld]
 rw [jS h (by omega), Option.bind_some, List.drop_zero, List.take_of_length_le (by omega)]; rfl
theorem DZ (c : List Value) (o : Nat) (v : Value) (h : o < c.length) : bg c o [v] = c.set o v := by
 simp only [bg, List.length_singleton]
 rw [List.set_eq_take_append_cons_drop, if_pos h]; simp
theorem Ob.st {M b cells T} (h : Ob M b cells T) {o : Nat} {v : Value} (ho : o < cells.length) (h1 : v.cells = #[v]) (h2 : v.oneCell' = true) :
    Go.Ab.st 1 (.pointer (some ⟨b, o, none⟩)) v M = some (M.set b (some (.inl (cells.set o v, T, true)))) := by
 simp only [Go.Ab.st]
 rw [show M.get b = some (.inl (cells, T, true)) from h]
 simp only [h1]
 rw [if_pos ⟨rfl, by show o + 1 ≤ cells.length; omega, by simp [h2]⟩]
 rw [DZ _ _ _ ho]
theorem Ob.setSt {M b cells T} (h : Ob M b cells T) (c' : List Value) : Ob (M.set b (some (.inl (c', T, true)))) b c' T := Store.get_set_eq _ _ h
theorem Ob.up {M M' b cells T} (h : Ob M b cells T) (k : Up M M') : Ob M' b cells T := k.get h
theorem Ob.new (M : Store) (cells : List Value) (T : TypeId) : Ob (M.push (some (.inl (cells, T, true)))) M.n cells T := Store.get_push_eq _ _
theorem Ob.keepI {M M' b cells T} (h : Ob M b cells T) (k : KeepI M M') : Ob M' b cells T := k.2 _ _ h
theorem Ob.same {M M' : Store} {b : Nat} {cells : List Value} {T : TypeId} (h : Ob M b cells T) (k : M'.get b = M.get b) : Ob M' b cells T := by unfold Ob; rw [k]; exact h
theorem Ob.lt {M b cells T} (h : Ob M b cells T) : b < M.n := M.lt_of_get h
theorem Ob.keep {M b cells T} (h : Ob M b cells T) {e : TypeId} (hne : T ≠ e) {M' : Store} (k : Keep e M M') : Ob M' b cells T := k.2 _ _ h fun _ he => hne (by injection he with he; simp only [Prod.mk.injEq] at he; exact he.2.1)
theorem Ch.keepT {M M' : Store} {b : Nat} {cells : List Value} {T : TypeId} (h : Ch [b] M M') (hb : Ob M b cells T) : Keep T M M' :=
 ⟨h.n, fun i x hi hx => by
  by_cases e : i = b
  ·subst e; rw [show M.get i = some (.inl (cells, T, true)) from hb] at hi; injection hi with hi; exact absurd hi.symm (hx cells)
  ·rw [h.get i (M.lt_of_get hi) (by simpa using e), hi]⟩
theorem Ch.setO {M : Store} {b : Nat} {cells : List Value} {T : TypeId} (hb : Ob M b cells T) (o : bh) : Ch [b] M (M.set b o) := Ch.set hb o
theorem w64 {x : Int} (h1 : -9223372036854775808 ≤ x) (h2 : x ≤ 9223372036854775807) : IntKind.wrap .i64 x = x := by
 simp [IntKind.wrap, IntKind.bits, IntKind.signed]
 omega
theorem aY (v : Value) (M : Store) (k : Value → Store → Prop) : LT v M k = k v M := rfl
theorem ae (p : Prop) [Decidable p] (A B : Prop) : BR (.bool (decide p)) A B = if p then A else B := by
 by_cases h : p <;> simp [BR, h]
theorem au (b : Bool) (A B : Prop) : BR (.bool b) A B = if b = true then A else B := by cases b <;> rfl
theorem eB (k : IntKind) (a b : Int) (K : Value → Prop) : OP (ad .add (.int k a) (.int k b)) K = K (.int k (k.wrap (a + b))) := by cases k <;> rfl
theorem pA (k : IntKind) (a b : Int) (K : Value → Prop) : OP (ad .sub (.int k a) (.int k b)) K = K (.int k (k.wrap (a - b))) := by cases k <;> rfl
theorem GX (k : IntKind) (a b : Int) (K : Value → Prop) : OP (ad .mul (.int k a) (.int k b)) K = K (.int k (k.wrap (a * b))) := by cases k <;> rfl
theorem aQ (k : IntKind) (a b : Int) (K : Value → Prop) : OP (ad .lss (.int k a) (.int k b)) K = K (.bool (decide (a < b))) := by cases k <;> rfl
theorem Dx (k : IntKind) (a b : Int) (K : Value → Prop) : OP (ad .leq (.int k a) (.int k b)) K = K (.bool (decide (a ≤ b))) := by cases k <;> rfl
theorem tc (k : IntKind) (a b : Int) (K : Value → Prop) : OP (ad .gtr (.int k a) (.int k b)) K = K (.bool (decide (a > b))) := by cases k <;> rfl
theorem ta (k : IntKind) (a b : Int) (K : Value → Prop) : OP (ad .geq (.int k a) (.int k b)) K = K (.bool (decide (a ≥ b))) := by cases k <;> rfl
theorem dN (k : IntKind) (a b : Int) (K : Value → Prop) : OP (ad .eql (.int k a) (.int k b)) K = K (.bool (decide (a = b))) := by cases k <;> rfl
theorem pz (k : IntKind) (a b : Int) (K : Value → Prop) : OP (ad .neq (.int k a) (.int k b)) K = K (.bool (decide (a ≠ b))) := by
 have : (a != b) = decide (a ≠ b) := by by_cases h : a = b <;> simp [h]
 cases k <;> simp [OP, ad, this]
theorem aM (b : Bool) (K : Value → Prop) : OP (aun .not (.bool b)) K = K (.bool (!b)) := rfl
theorem Dv (k j : IntKind) (n : Int) (K : Value → Prop) : OP (cvI k (.int j n)) K = K (.int k (k.wrap n)) := rfl
theorem GW (k j : IntKind) (a b : Int) (K : Value → Prop) : OP (fQ (.int k a) (.int j b)) K = K (.int k (if b < a then b else a)) := rfl
theorem Js (k j : IntKind) (a b : Int) (K : Value → Prop) : OP (wu (.int k a) (.int j b)) K = K (.int k (if b > a then b else a)) := rfl
theorem sD (a : Option Addr) (n c : Nat) (K : Value → Prop) : OP (lenV (.slice a n c)) K = K (.int .i64 n) := rfl
theorem mi (a : Addr) (K : Value → Prop) : OP (cg (.pointer (some a))) K = K (.pointer (some a)) := rfl
theorem py (f b o : Nat) (K : Value → Prop) : OP (fad f (.pointer (some ⟨b, o, none⟩))) K = K (.pointer (some ⟨b, o + f, none⟩)) := rfl
theorem E3 (z : Value) (K : List Value → Prop) : OP (al z 1 0 []) K = K [] := by kernel_rfl
theorem IE (z : Value) (k : IntKind) (n : Int) (K : List Value → Prop) : OP (al z 1 1 [(0, .int k n)]) K = K [.int k n] := by kernel_rfl
theorem FT {P : Program} {t e : TypeId} {cst : Bool} (h : P.underlying t = some (.slice e)) (a : Option Addr) (n c : Nat) (K : Value → Prop) : OP (gJ P cst .eql t (.slice a n c) (.slice none 0 0)) K = K (.bool a.isNone) := by
 cases a <;> simp [gJ, aeq, h, OP]
theorem Ju {k j : IntKind} {a b : Int} (h : 0 ≤ b) (K : Value → Prop) : OP (ad .shr (.int k a) (.int j b)) K = K (.int k (a.fdiv (2 ^ (min b.toNat k.bits)))) := by
 simp only [ad]; rw [if_neg (by omega)]; rfl
theorem ev : (∀ (α : Type) (v : α) (k : α → Prop), OP (some v) k = k v) ∧ (∀ v M k, OP2 (some (v, M)) k = k v M) ∧ (∀ v M k, LT v M k = k v M) ∧ (∀ A B, BR (.bool true) A B = A) ∧ (∀ A B, BR (.bool false) A B = B) ∧
    (∀ (p : Prop) [Decidable p] A B, BR (.bool (decide p)) A B = if p then A else B) ∧
    (∀ k a b K, OP (ad .add (.int k a) (.int k b)) K = K (.int k (k.wrap (a + b)))) ∧ (∀ k a b K, OP (ad .sub (.int k a) (.int k b)) K = K (.int k (k.wrap (a - b)))) ∧ (∀ k a b K, OP (ad .mul (.int k a) (.int k b)) K = K (.int k (k.wrap (a * b)))) ∧
    (∀ k a b K, OP (ad .lss (.int k a) (.int k b)) K = K (.bool (decide (a < b)))) ∧ (∀ k a b K, OP (ad .leq (.int k a) (.int k b)) K = K (.bool (decide (a ≤ b)))) ∧ (∀ k a b K, OP (ad .gtr (.int k a) (.int k b)) K = K (.bool (decide (a > b)))) ∧
    (∀ k a b K, OP (ad .geq (.int k a) (.int k b)) K = K (.bool (decide (a ≥ b)))) ∧ (∀ k a b K, OP (ad .eql (.int k a) (.int k b)) K = K (.bool (decide (a = b)))) ∧ (∀ k a b K, OP (ad .neq (.int k a) (.int k b)) K = K (.bool (decide (a ≠ b)))) ∧
    (∀ b K, OP (aun .not (.bool b)) K = K (.bool (!b))) ∧ (∀ k j n K, OP (cvI k (.int j n)) K = K (.int k (k.wrap n))) ∧ (∀ k j a b K, OP (fQ (.int k a) (.int j b)) K = K (.int k (if b < a then b else a))) ∧ (∀ k j a b K, OP (wu (.int k a) (.int j b)) K = K (.int k (if b > a then b else a))) ∧
    (∀ a n c K, OP (lenV (.slice a n c)) K = K (.int .i64 (n : Int))) ∧ (∀ a K, OP (cg (.pointer (some a))) K = K (.pointer (some a))) ∧ (∀ f b o K, OP (fad f (.pointer (some ⟨b, o, none⟩))) K = K (.pointer (some ⟨b, o + f, none⟩))) ∧
    (∀ z K, OP (al z 1 0 []) K = K []) ∧ (∀ z k n K, OP (al z 1 1 [(0, .int k n)]) K = K [.int k n]) :=
 ⟨fun _ _ _ => rfl, fun _ _ _ => rfl, fun _ _ _ => rfl, fun _ _ => rfl, fun _ _ => rfl, fun p _ A B => ae p A B, eB, pA, GX, aQ, Dx, tc, ta, dN, pz, aM, Dv, GW, Js, sD, mi, py, E3, IE⟩
end Go.Ab

set_option linter.unusedVariables false
set_option linter.unusedSimpArgs false
namespace Go.Ab
def bx (v : Value) : Option Nat := match v with
 | .slice (some a) _ _ => some a.block
 | _ => none
theorem sA {v : Value} {b : Nat} (h : kil v = some b) : bx v = some b := by
 unfold kil at h
 split at h
 ·split at h
  ·cases h
  ·injection h with h; subst h; rfl
 ·cases h
theorem mo {v : Value} {b : Nat} : b ∈ kl v ↔ kil v = some b := by
 unfold kl
 cases kil v with
 | none => simp
 | some c => simp [eq_comm]
theorem Sl.fr {s e M M' v n cs} (h : Sl s e M v n cs) {S : List Nat} (k : Ch S M M') (hS : ∀ b, bx v = some b → b ∉ S) : Sl s e M' v n cs := by
 obtain ⟨h1, a, c, rfl, h3, h4⟩ := h
 refine ⟨h1, a, c, rfl, h3, fun hn => ?_⟩
 obtain ⟨b, o, cells, e', own, rfl, h6, h7⟩ := h4 hn
 exact ⟨b, o, cells, e', own, rfl, k.at h6 (hS _ rfl), h7⟩
theorem Nw.fr {s e M0 M M' v n cs} (h : Nw s e M0 M v n cs) {S : List Nat} (k : Ch S M M') (hS : ∀ b, bx v = some b → b ∉ S) : Nw s e M0 M' v n cs := by
 obtain ⟨h1, h | ⟨b, cells, c, rfl, h2, h3, h4⟩⟩ := h
 ·exact ⟨h1, .inl h⟩
 ·exact ⟨h1, .inr ⟨b, cells, c, rfl, h2, k.at h3 (hS _ rfl), h4⟩⟩
theorem Ob.fr {M M' b cells T} (h : Ob M b cells T) {S : List Nat} (k : Ch S M M') (hS : b ∉ S) : Ob M' b cells T := k.at h hS
theorem Nw.bx_in {s e M0 M v n cs} (h : Nw s e M0 M v n cs) {b : Nat} (hb : kil v = some b) : M0.n ≤ b ∧ b < M.n := by
 obtain ⟨h1, ⟨rfl, a, rfl, _⟩ | ⟨b', cells, c, rfl, h2, h3, h4⟩⟩ := h
 ·cases a <;> simp [kil] at hb
 ·have := sA hb
  simp only [bx, Option.some.injEq] at this
  subst this
  exact ⟨h2, M.lt_of_get h3⟩
theorem Ch.sub {S S' : List Nat} {M M' : Store} (h : Ch S M M') (hs : ∀ b ∈ S, b ∈ S') : Ch S' M M' := h.mono hs
theorem fU {P : Program} {E : Ext} {f : Value} {args : List Value} {M : Store} {K K' : Value → Store → Prop} (h : td P E f args M K) (hk : ∀ v M', K v M' → K' v M') : td P E f args M K' := by
 unfold td at h ⊢
 split at h
 ·exact h.mono hk
 ·exact h.mono hk
 ·exact h.elim
theorem Each.of {α : Type} {E : Value → α → Prop} : ∀ {vs : List Value} {xs : List α}, vs.length = xs.length → (∀ j (h1 : j < vs.length) (h2 : j < xs.length), E vs[j] xs[j]) → Each E vs xs
 | [], [], _, _ => trivial
 | v :: vs, x :: xs, h, k => ⟨k 0 (by simp) (by simp), Each.of (by simpa using h) fun j h1 h2 => k (j + 1) (by simp; omega) (by simp; omega)⟩
def Mzz : Store := ⟨0, [], []⟩
theorem Up.zero (M : Store) : Up Mzz M := ⟨Nat.zero_le _, fun i hi => absurd hi (Nat.not_lt_zero i), M.log, by simp [Mzz], fun b _ => .inl (Nat.zero_le b)⟩
section
variable {α : Type} (En : α → Value)
abbrev LV (e : TypeId) (M : Store) (v : Value) (xs : List α) : Prop := Sl 1 e M v xs.length (xs.map En)
abbrev NV (e : TypeId) (M0 M : Store) (v : Value) (xs : List α) : Prop := Nw 1 e M0 M v xs.length (xs.map En)
end
section
variable {α : Type} {En : α → Value} {e : TypeId} {M M0 M' : Store} {v : Value} {xs : List α}
theorem LV.at (h : LV En e M v xs) {i : Nat} (hi : i < xs.length) (k : IntKind) : ∃ p, ixA 1 v (.int k (i : Int)) = some p ∧ ld 1 false p M = some (En xs[i]) := by
 obtain ⟨p, h1, h2⟩ := Sl.at h hi k
 refine ⟨p, h1, ?_⟩
 rw [h2]
 have : ((xs.map En).drop (i * 1)).take 1 = [En xs[i]] := by
  rw [Nat.mul_one, List.drop_eq_getElem_cons (by simpa using hi)]; simp
 rw [this]; rfl
theorem LV.cut (h : LV En e M v xs) {lo hi : Option Value} {a r : Nat} (hhi : ar hi xs.length xs.length = some r) (hlo : ar lo r 0 = some a) (hr : r ≤ xs.length) (ha : a ≤ r) :
    ∃ v', slV 1 e v lo hi M = some v' ∧ LV En e M v' ((xs.take r).drop a) := by
 obtain ⟨v', h1, h2⟩ := Sl.cut h hhi hlo hr ha
 refine ⟨v', h1, ?_⟩
 have e1 : ((xs.take r).drop a).length = r - a := by simp; omega
 have e2 : ((xs.take r).drop a).map En = ((xs.map En).drop (a * 1)).take ((r - a) * 1) := by
  rw [List.map_drop, List.map_take, Nat.mul_one, Nat.mul_one, List.drop_take]
 unfold LV
 rw [e1, e2]; exact h2
theorem NV.lv (h : NV En e M0 M v xs) : LV En e M v xs := Nw.sl h
theorem NV.nil : NV En e M0 M (.slice none 0 0) ([] : List α) := Nw.nil _ _ _ _
theorem EN {base : Option Addr} {n cap s : Nat} {e : TypeId} {m : Nat} {ys : List Value} {M M' : Store} {v' : Value} (h : cN base n cap s e m ys M = some (v', M')) : v' = .slice (some ⟨M.n, 0, none⟩) (n + m) (n + m + 1) ∧ M.n < M'.n := by
 unfold cN at h
 split at h
 ·split at h
  ·injection h with h; injection h with h1 h2; subst h2; exact ⟨h1.symm, by simp⟩
  ·cases h
 ·split at h
  ·split at h
   ·injection h with h; injection h with h1 h2; subst h2; exact ⟨h1.symm, by simp⟩
   ·obtain ⟨old, _, h⟩ := Option.bind_eq_some_iff.1 h
    injection h with h; injection h with h1 h2; subst h2; exact ⟨h1.symm, by simp⟩
  ·split at h
   ·split at h
    ·split at h
     ·injection h with h; injection h with h1 h2; subst h2; exact ⟨h1.symm, by simp⟩
     ·cases h
    ·cases h
   ·cases h
 ·cases h
theorem Ap {s : Nat} {e e' : TypeId} {a : Option Addr} {n c : Nat} {x : Value} {m : Nat} {ys : List Value} {M M' : Store} {v' : Value} (hx : Sl s e' M x m ys) (hm : 0 < m) (h : Go.Ab.appV s e (.slice a n c) x M = some (v', M')) : bx v' = some M.n ∧ M.n < M'.n := by
 simp only [Go.Ab.appV, hx.newV, Option.bind_some, Go.Ab.appG, if_neg (show ¬ m = 0 by omega)] at h
 split at h
 ·obtain ⟨h1, h2⟩ := EN h
  subst h1; exact ⟨rfl, h2⟩
 ·cases h
theorem NV.app1 {Mb : Store} (hu : Up M0 M) (h0b : M0.n ≤ Mb.n) (hbm : Mb.n ≤ M.n) (h : NV En e Mb M v xs) (x : α) {w : Value} (hw : w = En x) (hz : xs.length + 1 ≤ 2 ^ 28) {K : Value → Store → Prop}
    (hK : ∀ v' M', Up M0 M' → NV En e Mb M' v' (xs ++ [x]) → Ch (kl v) M M' → (∃ b, bx v' = some b ∧ M.n ≤ b ∧ b < M'.n) → K v' M') :
    OP2 (appV 1 e v (.slice (some ⟨M.n, 0, none⟩) 1 1) (M.push (some (.inl ([w], e, true))))) K := by
 subst hw
 have hx : Sl 1 e (M.push (some (.inl ([En x], e, true)))) (.slice (some ⟨M.n, 0, none⟩) 1 1) 1 [En x] := (Nw.lit (M0 := M) (n := 1) (Nat.le_refl _) rfl).sl
 have hup := Up.push M (some (.inl ([En x], e, true)))
 obtain ⟨v', M', e1, hu', hN, hn, hf, hc⟩ := Nw.appV2 (hu.trans hup) h0b (by simp; omega) (Nw.up h hup) hx (by simpa using hz)
 rw [e1, ey]
 obtain ⟨a, c, rfl⟩ := h.sl.slice
 obtain ⟨hb1, hb2⟩ := Ap hx (by omega) e1
 refine hK v' M' hu' ?_ (Ch.trans' (Up.any hup) hc ?_) ⟨_, hb1, by simp, hb2⟩
 ·simpa [NV] using hN
 ·intro b hb; exact .inl hb
theorem NV.apps {Mb : Store} (hu : Up M0 M) (h0b : M0.n ≤ Mb.n) (hbm : Mb.n ≤ M.n) (h : NV En e Mb M v xs) {e' : TypeId} {w : Value} {ys : List α} (hw : LV En e' M w ys) (hz : xs.length + ys.length ≤ 2 ^ 28) {K : Value → Store → Prop}
    (hK : ∀ v' M', Up M0 M' → NV En e Mb M' v' (xs ++ ys) → Ch (kl v) M M' → M.n ≤ M'.n → K v' M') : OP2 (appV 1 e v w M) K := by
 obtain ⟨v', M', e1, hu', hN, hn, hf, hc⟩ := Nw.appV2 hu h0b hbm h hw hz
 rw [e1, ey]
 refine hK v' M' hu' ?_ hc hn
 simpa [NV] using hN
theorem LV.up (h : LV En e M v xs) (k : Up M M') : LV En e M' v xs := Sl.up h k
theorem LV.len (h : LV En e M v xs) : lenV v = some (.int .i64 (xs.length : Int)) := Sl.lenV h
end
theorem Nw.put1 {e Mb M v n cs} (h : Nw 1 e Mb M v n cs) {i : Nat} (hi : i < n) (k : IntKind) {w : Value} (h1 : w.cells = #[w]) (h2 : w.oneCell' = true) :
    ∃ p M' b, ixA 1 v (.int k (i : Int)) = some p ∧ ld 1 false p M = some (cs.getD i undef) ∧ st 1 p w M = some M' ∧ Nw 1 e Mb M' v n (cs.set i w) ∧ bx v = some b ∧ Mb.n ≤ b ∧ b < M.n ∧ Ch [b] M M' := by
 have hlen := h.len
 rw [Nat.mul_one] at hlen
 obtain ⟨q, eq, eld⟩ := Sl.at h.sl hi k
 obtain ⟨h0, ⟨h3, _⟩ | ⟨b, cells, c, rfl, h3, h4, h5, h6, h7⟩⟩ := h
 ·omega
 ·have hob : Ob M b cells e := h4
  rw [Nat.mul_one] at h5 h6
  have eq' : ixA 1 (.slice (some ⟨b, 0, none⟩) n c) (.int k (i : Int)) = some (.pointer (some ⟨b, 0 + i * 1, none⟩)) := by
   simp only [ixA]; rw [if_pos ⟨by omega, by omega, trivial⟩]; simp
  rw [eq'] at eq; injection eq with eq; subst eq
  refine ⟨.pointer (some ⟨b, 0 + i * 1, none⟩), M.set b (some (.inl (cells.set i w, e, true))), b, eq', ?_, ?_, ⟨by simp; omega, .inr ⟨b, cells.set i w, c, rfl, h3, hob.setSt _, by rw [List.length_set]; omega, by rw [Nat.mul_one, List.take_set, h6], h7⟩⟩, rfl, h3, M.lt_of_get h4, Ch.setO hob _⟩
  ·rw [eld]
   rw [Nat.mul_one, List.drop_eq_getElem_cons (by omega)]
   simp only [List.take_succ_cons, List.take_zero, uV, cond_false]
   rw [List.getD_eq_getElem?_getD, List.getElem?_eq_getElem (by omega)]; rfl
  ·rw [show 0 + i * 1 = i by omega]; exact hob.st (by omega) h1 h2
theorem D9 {z : Value} (h : z.cells = #[z]) (n : Nat) : cX z n = List.replicate n z := by
 unfold cX; rw [h]
theorem AL {α : Type} {En : α → Value} {e : TypeId} {by_ n : Nat} {z : Value} {x0 : α} (hz : z.cells = #[z]) (hx : En x0 = z) (hn : n ≤ 2 ^ 30) (hby : by_ ≤ 2 ^ 10) {M : Store} {K : Value → Store → Prop}
    (hK : ∀ v M', Up M M' → NV En e M M' v (List.replicate n x0) → bx v = some M.n → K v M') : OP2 (mkS z 1 by_ e (.int .i64 (n : Int)) (.int .i64 (n : Int)) M) K := by
 have hb : by_ * n ≤ 2 ^ 40 := by
  have := Nat.mul_le_mul hby hn
  omega
 simp only [mkS]
 rw [if_pos ⟨by omega, by omega, by omega, by norm_cast⟩, ey]
 simp only [Int.toNat_natCast, Nat.mul_one, D9 hz, if_true]
 refine hK _ _ (Up.push _ _) ?_ rfl
 have : NV En e M (M.push (some (.inl (List.replicate n z, e, true)))) (.slice (some ⟨M.n, 0, none⟩) n n) (List.replicate n x0) := by
  have h := Nw.lit (s := 1) (e := e) (M0 := M) (M := M) (Nat.le_refl _) (n := n) (cs := List.replicate n z) (by simp)
  simpa [NV, hx] using h
 exact this
theorem Ob.stA {M b cells T s} (h : Ob M b cells T) (h1 : cells.length = s) {vs : List Value} (h2 : vs.length = s) (h3 : vs.all (·.oneCell') = true) :
    Go.Ab.st s (.pointer (some ⟨b, 0, none⟩)) (.agg vs.toArray) M = some (M.set b (some (.inl (vs, T, true)))) := by
 simp only [Go.Ab.st]
 rw [show M.get b = some (.inl (cells, T, true)) from h]
 dsimp only
 rw [if_pos (show s = (Value.agg vs.toArray).cells.size ∧ 0 + (Value.agg vs.toArray).cells.size ≤ cells.length ∧ (Value.agg vs.toArray).cells.all (·.oneCell') = true from
  ⟨show s = vs.toArray.size by simp [h2], show 0 + vs.toArray.size ≤ cells.length by simp; omega, show vs.toArray.all (·.oneCell') = true by simpa using h3⟩)]
 have : bg cells 0 (Value.agg vs.toArray).cells.toList = vs := by
  show bg cells 0 vs.toArray.toList = vs
  simp only [bg, List.take_zero, List.nil_append, Nat.zero_add]
  rw [List.drop_of_length_le (show cells.length ≤ vs.length by omega), List.append_nil]
 rw [this]
structure qD {α : Type} [DecidableEq α] (kd : TypeDesc) (En : α → Value) : Prop where
 key : ∀ x, bX kd (En x) = true
 eq : ∀ x y, kJ (En x) (En y) = decide (x = y)
section
variable {α : Type} [DecidableEq α]
def fnd (k : α) : List (α × Value) → Option Value
 | [] => none
 | (q, v) :: r => if k = q then some v else fnd k r
def Mp (En : α → Value) (M : Store) (b : Nat) (f : α → Option Value) : Prop := ∃ kvs : List (α × Value), M.get b = some (.inr (.inl (kvs.map fun p => (En p.1, p.2)))) ∧ ∀ k, fnd k kvs = f k
theorem Mp.up {En : α → Value} {M M' : Store} {b : Nat} {f : α → Option Value} (h : Mp En M b f) (k : Up M M') : Mp En M' b f := by
 obtain ⟨kvs, h1, h2⟩ := h; exact ⟨kvs, k.get h1, h2⟩
theorem Mp.fr {En : α → Value} {M M' : Store} {b : Nat} {f : α → Option Value} (h : Mp En M b f) {S : List Nat} (k : Ch S M M') (hS : b ∉ S) : Mp En M' b f := by
 obtain ⟨kvs, h1, h2⟩ := h; exact ⟨kvs, k.at h1 hS, h2⟩
theorem Mp.keep {En : α → Value} {M M' : Store} {b : Nat} {f : α → Option Value} (h : Mp En M b f) {e : TypeId} (k : Keep e M M') : Mp En M' b f := by
 obtain ⟨kvs, h1, h2⟩ := h; exact ⟨kvs, k.2 _ _ h1 (fun cells he => by cases he), h2⟩
theorem Mp.new {En : α → Value} (M : Store) : Mp En (M.push (some (.inr (.inl [])))) M.n fun _ => none := ⟨[], Store.get_push_eq _ _, fun _ => rfl⟩
theorem Mp.lt {En : α → Value} {M : Store} {b : Nat} {f : α → Option Value} (h : Mp En M b f) : b < M.n := by
 obtain ⟨kvs, h1, _⟩ := h; exact M.lt_of_get h1
theorem nb {kd : TypeDesc} {En : α → Value} (hE : qD kd En) (k : α) : ∀ (kvs : List (α × Value)) (i : Nat), (bY (En k) (kvs.map fun p => (En p.1, p.2)) i).map (·.2) = fnd k kvs
 | [], i => rfl
 | (q, v) :: r, i => by
  simp only [List.map_cons, bY, hE.eq, fnd]
  by_cases h : k = q
  ·simp [h]
  ·simp only [h, decide_false, if_false]
   exact nb hE k r (i + 1)
theorem uL {kd : TypeDesc} {En : α → Value} (hE : qD kd En) (kvs : List (α × Value)) : ((kvs.map fun p => (En p.1, p.2)).all fun e => bX kd e.1) = true := by
 rw [List.all_eq_true]
 intro x hx
 obtain ⟨p, _, rfl⟩ := List.mem_map.1 hx
 exact hE.key _
theorem Mp.look {kd : TypeDesc} {En : α → Value} (hE : qD kd En) {M : Store} {b : Nat} {f : α → Option Value} (h : Mp En M b f) (z : Value) (k : α) :
    lku kd z (.map (some b)) (En k) true M = some (.tuple #[(f k).getD z, .bool (f k).isSome]) := by
 obtain ⟨kvs, h1, h2⟩ := h
 unfold lku
 rw [hE.key]
 simp only [Bool.not_true, Bool.false_eq_true, if_false, h1, Option.bind_some, uL hE, if_true]
 rw [← h2 k, ← nb hE k kvs 0]
 cases bY (En k) (kvs.map fun p => (En p.1, p.2)) 0 with
 | none => rfl
 | some p => rfl
theorem Mp.look1 {kd : TypeDesc} {En : α → Value} (hE : qD kd En) {M : Store} {b : Nat} {f : α → Option Value} (h : Mp En M b f) (z : Value) (k : α) :
    lku kd z (.map (some b)) (En k) false M = some ((f k).getD z) := by
 obtain ⟨kvs, h1, h2⟩ := h
 unfold lku
 rw [hE.key]
 simp only [Bool.not_true, Bool.false_eq_true, if_false, h1, Option.bind_some, uL hE]
 rw [← h2 k, ← nb hE k kvs 0]
 cases bY (En k) (kvs.map fun p => (En p.1, p.2)) 0 with
 | none => rfl
 | some p => rfl
theorem wt {kd : TypeDesc} {En : α → Value} (hE : qD kd En) (k : α) (v' : Value) : ∀ (kvs : List (α × Value)) (i j : Nat) (w : Value), bY (En k) (kvs.map fun p => (En p.1, p.2)) i = some (j, w) →
    ∃ kvs', (kvs.map fun p => (En p.1, p.2)).set (j - i) (En k, v') = (kvs'.map fun p => (En p.1, p.2)) ∧ i ≤ j ∧ ∀ q, fnd q kvs' = if q = k then some v' else fnd q kvs
 | [], i, j, w, h => by cases h
 | (q, v) :: r, i, j, w, h => by
  simp only [List.map_cons, bY, hE.eq] at h
  by_cases hk : k = q
  ·simp only [hk, decide_true, if_true, Option.some.injEq, Prod.mk.injEq] at h
   obtain ⟨rfl, rfl⟩ := h
   subst hk
   refine ⟨(k, v') :: r, by simp, Nat.le_refl _, fun q => ?_⟩
   simp only [fnd]
   split <;> rfl
  ·simp only [hk, decide_false] at h
   obtain ⟨kvs', h1, h2, h3⟩ := wt hE k v' r (i + 1) j w h
   refine ⟨(q, v) :: kvs', ?_, by omega, fun q' => ?_⟩
   ·rw [show j - i = (j - (i + 1)) + 1 by omega]
    simp only [List.map_cons, List.set_cons_succ, h1]
   ·simp only [fnd, h3]
    split
    ·rename_i h4; subst h4; rw [if_neg (fun h => hk h.symm)]
    ·rfl
theorem AD (k : α) (v : Value) : ∀ (kvs : List (α × Value)) (q : α), fnd q (kvs ++ [(k, v)]) = match fnd q kvs with
    | some w => some w
    | none => if q = k then some v else none
 | [], q => rfl
 | (q', v') :: r, q => by
  simp only [List.cons_append, fnd]
  split
  ·rfl
  ·exact AD k v r q
theorem Mp.put {kd : TypeDesc} {En : α → Value} (hE : qD kd En) {M : Store} {b : Nat} {f : α → Option Value} (h : Mp En M b f) (k : α) {v : Value} (hv : v.cells.all (·.oneCell') = true) :
    ∃ M', mup kd (.map (some b)) (En k) v M = some M' ∧ Mp En M' b (fun q => if q = k then some v else f q) ∧ Ch [b] M M' ∧ KeepI M M' := by
 obtain ⟨kvs, h1, h2⟩ := h
 simp only [mup, hE.key, hv, Bool.not_true, Bool.false_eq_true, if_false, h1, uL hE]
 cases ha : bY (En k) (kvs.map fun p => (En p.1, p.2)) 0 with
 | none =>
  refine ⟨_, rfl, ⟨kvs ++ [(k, v)], ?_, fun q => ?_⟩, Ch.set h1 _, KeepI.setR h1 _⟩
  ·rw [Store.get_set_eq _ _ h1]; simp
  ·rw [AD, h2]
   have hn : f k = none := by rw [← h2 k, ← nb hE k kvs 0, ha]; rfl
   by_cases hq : q = k
   ·subst hq; simp only [hn, if_true]
   ·simp only [if_neg hq]; cases f q <;> rfl
 | some p =>
  obtain ⟨j, w⟩ := p
  obtain ⟨kvs', h3, _, h4⟩ := wt hE k v kvs 0 j w ha
  refine ⟨_, rfl, ⟨kvs', ?_, fun q => ?_⟩, Ch.set h1 _, KeepI.setR h1 _⟩
  ·rw [Store.get_set_eq _ _ h1]; simp only [Nat.sub_zero] at h3; rw [h3]
  ·rw [h4, h2]
end
theorem Nw.kl_inl {s e M0 M v n cs} (h : Nw s e M0 M v n cs) {b : Nat} (hb : b ∈ kl v) : ∃ cells, M.get b = some (.inl (cells, e, true)) := by
 have hk := mo.1 hb
 obtain ⟨h1, ⟨rfl, a, rfl, _⟩ | ⟨b', cells, c, rfl, h2, h3, h4⟩⟩ := h
 ·cases a <;> simp [kil] at hk
 ·have := sA hk
  simp only [bx, Option.some.injEq] at this
  subst this
  exact ⟨cells, h3⟩
theorem Mp.app {α : Type} [DecidableEq α] {En : α → Value} {M M' : Store} {b : Nat} {f : α → Option Value} (h : Mp En M b f) {s e M0 v n cs} (hv : Nw s e M0 M v n cs) (k : Ch (kl v) M M') : Mp En M' b f := by
 refine h.fr k fun hb => ?_
 obtain ⟨kvs, h1, _⟩ := h
 obtain ⟨cells, h2⟩ := hv.kl_inl hb
 rw [h1] at h2; injection h2 with h2; cases h2
theorem Nw.keepE {s e M0 M v n cs} (h : Nw s e M0 M v n cs) {M' : Store} (k : Ch (kl v) M M') : Keep e M M' :=
 ⟨k.n, fun i x hi hx => by
  refine k.at hi fun hm => ?_
  obtain ⟨cells, h2⟩ := h.kl_inl hm
  rw [h2] at hi; injection hi with hi
  exact hx cells hi.symm⟩
theorem Ch.trans2 {S S' : List Nat} {M M1 M2 : Store} (h : Ch S M M1) (k : Ch S' M1 M2) : Ch (S ++ S') M M2 :=
 (h.mono fun _ hb => List.mem_append_left _ hb).trans (k.mono fun _ hb => List.mem_append_right _ hb)
theorem Jb (A B C : Prop) : BR3 (.bool true) A B C = A := rfl
theorem Ja (A B C : Prop) : BR3 (.bool false) A B C = B := rfl
theorem D5 (a b : Value) : tup (.tuple #[a, b]) 0 = some a := rfl
theorem D6 (a b : Value) : tup (.tuple #[a, b]) 1 = some b := rfl
abbrev iv (z : Int) : Value := .int .i64 z
abbrev sv (l : List UInt8) : Value := .string ⟨l.toArray⟩
abbrev tv (b : Bool) : Value := .bool b
theorem pr (z : Int) : (iv z).cells = #[iv z] := by kernel_rfl
theorem y7 (z : Int) : (iv z).oneCell' = true := by kernel_rfl
theorem sN (z : Int) : (iv z).cells.all (·.oneCell') = true := by kernel_rfl
theorem uE (l : List UInt8) : (sv l).cells = #[sv l] := by kernel_rfl
theorem DM (l : List UInt8) : (sv l).oneCell' = true := by kernel_rfl
theorem mf (b : Bool) : (tv b).cells = #[tv b] := by kernel_rfl
theorem DN (b : Bool) : (tv b).oneCell' = true := by kernel_rfl
theorem Fj (b : Bool) : (tv b).cells.all (·.oneCell') = true := by kernel_rfl
theorem bQ (a : Option Addr) (n c : Nat) : (Value.slice a n c).cells = #[Value.slice a n c] := by kernel_rfl
theorem gG (a : Option Addr) (n c : Nat) : (Value.slice a n c).oneCell' = true := by kernel_rfl
theorem IZ (a : Option Addr) (n c : Nat) : (Value.slice a n c).cells.all (·.oneCell') = true := by kernel_rfl
theorem Az (a : Option Nat) : (Value.map a).cells = #[Value.map a] := by kernel_rfl
theorem G1 (a : Option Nat) : (Value.map a).oneCell' = true := by kernel_rfl
theorem dD : qD (.int .i64) iv := ⟨fun _ => rfl, fun x y => by simp only [kJ]; rfl⟩
theorem AG : qD .string sv := ⟨fun _ => rfl, fun x y => by
 simp only [kJ, nl]
 by_cases h : x = y
 ·subst h; simp
 ·have : (⟨x.toArray⟩ : ByteArray) ≠ ⟨y.toArray⟩ := fun e => h (by have := congrArg (fun b => b.data.toList) e; simpa using this)
  simp [h, this]⟩
end Go.Ab

set_option linter.unusedVariables false
set_option linter.unusedSimpArgs false
namespace Go.Ab
open Go.RowKit Go.ChangeShapes Go.WideShapes Go.ChangeAt
theorem HY {P : Program} {μ : Map} {M : Store} {w : World} (hR : Rel P μ M w) (hro : ∀ i l, μ i = some l → l.own = false) {b o : Nat} {cc : Array Value} {ce : TypeId} {fr : Nat × Nat} (hb : w.heap[b]? = some (.cells cc ce fr))
    {c : List Value} (hc : LRel (CRel P μ w.shape?) ((cc.toList.drop o).take c.length) c) (e : TypeId) :
    Rel P (upd μ M.n ⟨b, o, false⟩) (M.push (some (.inl (c, e, false)))) w ∧ MLe μ (upd μ M.n ⟨b, o, false⟩) ∧ (∀ i l, upd μ M.n ⟨b, o, false⟩ i = some l → l.own = false) := by
 have hle := MLe.upd (l := ⟨b, o, false⟩) hR.fresh
 have hown : ∀ i l, upd μ M.n ⟨b, o, false⟩ i = some l → l.own = false := by
  intro i l hi
  by_cases e : i = M.n
  ·subst e; rw [aZ] at hi; injection hi with hi; subst hi; rfl
  ·rw [cV _ _ e] at hi; exact hro i l hi
 refine ⟨⟨?_, ?_, ?_⟩, hle, hown⟩
 ·intro i l hi
  by_cases e : i = M.n
  ·subst e; rw [aZ] at hi; injection hi with hi; subst hi
   exact ⟨by simp, (Array.getElem?_eq_some_iff.1 hb).1⟩
  ·rw [cV _ _ e] at hi
   have := hR.dom _ _ hi
   exact ⟨by simp; omega, this.2⟩
 ·intro i l hi
  by_cases e : i = M.n
  ·subst e; rw [aZ] at hi; injection hi with hi; subst hi
   rw [Store.get_push_eq]
   exact ⟨rfl, cc, ce, fr, hb, hc.mono fun _ _ => CRel.mono hle (.refl _), fun h => by cases h⟩
  ·rw [cV _ _ e] at hi
   rw [Store.get_push_ne _ _ e]
   have := hR.obj i l hi
   cases ho : M.get i with
   | none => trivial
   | some x =>
    rw [ho] at this
    match x, this with
    | .inl (c, e, own), ⟨h1, cc, ce, fr, h2, h3, h4⟩ => exact ⟨h1, cc, ce, fr, h2, h3.mono fun _ _ => CRel.mono hle (.refl _), h4⟩
    | .inr (.inl es), ⟨h1, en, ck, h2, h3⟩ => exact ⟨h1, en, ck, h2, h3.1, fun i x kv a b => ⟨((h3.2 i x kv a b).1).mono hle (.refl _), ((h3.2 i x kv a b).2.1).mono hle (.refl _), (h3.2 i x kv a b).2.2⟩⟩
    | .inr (.inr none), h => exact h
    | .inr (.inr (some r)), ⟨h1, q, h2, h3⟩ => exact ⟨h1, q, h2, h3.mono hle (.refl _)⟩
 ·intro i j l k hi hj hne h1 h2 ho
  rw [hown i l hi] at ho; cases ho
structure Lay (P : Program) (w : World) (μ : Map) (M : Store) : Prop where
 rel : Rel P μ M w
 ro : ∀ i l, μ i = some l → l.own = false
 glob : GOk μ w.shape?
theorem Lay.start {P : Program} (w : World) (hw : Gsh w := by intro g i h; cases h) : Lay P w uY M00 := ⟨yo w hw, fun _ _ h => (mC h).1, GZ hw⟩
theorem GL {P : Program} {μ : Map} {sh : Shp} (a : Option Addr) (c : Nat) (hc : c ≤ maxLen) (h : a = none → c = 0) : ∃ a', (∀ x, a' = some x → x.spot = none) ∧ SlRel P μ sh a 0 c a' 0 2 := by
 cases a with
 | none => exact ⟨none, (fun _ h => by cases h), { len := rfl, le := Nat.zero_le _, max := hc, full := (fun h => by cases h), some_ := rfl, nil := (fun _ => ⟨rfl, h rfl⟩), addr := (fun h => by rcases h with h | h <;> omega) }⟩
 | some x => exact ⟨some ⟨0, 0, none⟩, (fun x h => by injection h with h; subst h; rfl), { len := rfl, le := Nat.zero_le _, max := hc, full := (fun h => by cases h), some_ := rfl, nil := (fun h => by cases h), addr := (fun h => by rcases h with h | h <;> omega) }⟩
theorem AA {w : World} {a : Addr} {n : Nat} {f : Nat → Value} (hn : 0 < n) (h : ∀ i, i < n → w.cell? (a.add i) = some (f i)) :
    a.spot = none ∧ ∃ cc ce fr, w.heap[a.block]? = some (.cells cc ce fr) ∧ (cc.toList.drop a.off).take n = (List.range n).map f := by
 have h0 := h 0 hn
 have e0 : a.add 0 = a := by simp [Addr.add]
 rw [e0] at h0
 unfold World.cell? at h0
 split at h0
 ·rename_i cc ce fr hb
  split at h0
  ·cases h0
  ·rename_i hs
   have hs' : a.spot = none := by cases hsp : a.spot with | none => rfl | some x => rw [hsp] at hs; simp at hs
   refine ⟨hs', cc, ce, fr, hb, ?_⟩
   have hall : ∀ i, i < n → cc.toList[a.off + i]? = some (f i) := by
    intro i hi
    have := h i hi
    obtain ⟨b, o, sp⟩ := a
    simp only at hs' hb
    subst hs'
    rw [se] at this
    unfold World.cell? at this
    simp only [hb] at this
    simpa using this
   apply List.ext_getElem?
   intro i
   rw [List.getElem?_take, List.getElem?_drop, List.getElem?_map]
   by_cases hi : i < n
   ·rw [if_pos hi, hall i hi, List.getElem?_range hi]; rfl
   ·rw [if_neg hi, List.getElem?_eq_none (by simp; omega)]; rfl
 ·cases h0
theorem Hz {P : Program} {w : World} {μ : Map} {M : Store} (hL : Lay P w μ M) {a : Addr} {n c : Nat} (hnc : n ≤ c) (hc : c ≤ maxLen) (hn : 0 < n) {f : Nat → Value} {vs : List Value} (hf : ∀ i, i < n → w.cell? (a.add i) = some (f i))
    (hvs : LRel (CRel P μ w.shape?) ((List.range n).map f) vs) (e : TypeId) :
    ∃ μ', Lay P w μ' (M.push (some (.inl (vs, e, false)))) ∧ MLe μ μ' ∧ VRel P μ' w.shape? (.slice (some a) n c) (.slice (some ⟨M.n, 0, none⟩) n (n + 2)) ∧ Sl 1 e (M.push (some (.inl (vs, e, false)))) (.slice (some ⟨M.n, 0, none⟩) n (n + 2)) n vs := by
 obtain ⟨hs, cc, ce, fr, hb, hwin⟩ := AA hn hf
 have hlen : vs.length = n := by have := hvs.1; simpa using this.symm
 have hc' : LRel (CRel P μ w.shape?) ((cc.toList.drop a.off).take vs.length) vs := by rw [hlen, hwin]; exact hvs
 obtain ⟨h1, h2, h3⟩ := HY hL.rel hL.ro hb hc' e
 refine ⟨_, ⟨h1, h3, hL.glob.mono h2 (.refl _)⟩, h2, ?_, by rw [hlen, Nat.mul_one], _, _, rfl, ?_, ?_⟩
 ·refine VRel.of_B (show SlRel P _ _ _ _ _ _ _ _ from { len := rfl, le := hnc, max := hc, full := (fun h => by omega), some_ := rfl, nil := (fun h => by cases h), addr := ?_ })
  intro _ x hx
  injection hx with hx; subst hx
  refine ⟨a, rfl, ⟨rfl, ⟨a.block, a.off, false⟩, aZ _ _ _, ?_⟩, ?_⟩
  ·obtain ⟨b, o, sp⟩ := a; simp only at hs; subst hs; rfl
  ·intro l hl ho
   rw [aZ] at hl; injection hl with hl; subst hl; cases ho
 ·intro x hx; injection hx with hx; subst hx; rfl
 ·intro _
  exact ⟨M.n, 0, vs, e, false, rfl, Store.get_push_eq _ _, (fun h => by cases h), by omega, by rw [List.drop_zero, List.take_of_length_le (by omega)]⟩
theorem Gb {P : Program} {μ : Map} {sh : Shp} (k : IntKind) (n : Int) : CRel P μ sh (.int k n) (.int k n) := ⟨rfl, rfl⟩
end Go.Ab
