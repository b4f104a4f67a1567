/- What memory holds: slices, those that a call made, what became of a store. -/
import Derived.Test.YtmdbdbjaipcgeaaAbWp5
import Derived.KernelRfl
set_option linter.unusedVariables false
set_option linter.unusedSimpArgs false
namespace Go.Ab

/-! ## stores -/
/-- What was there is as it was, but for some objects; nothing else was touched but what is new. -/
structure Ch (S : List Nat) (M M' : Store) : Prop where
  n : M.n ≤ M'.n
  get : ∀ i, i < M.n → i ∉ S → M'.get i = M.get i
  log : ∃ t, M'.log = t ++ M.log ∧ ∀ b ∈ t, M.n ≤ b ∨ b ∈ S
abbrev Up (M M' : Store) : Prop := Ch [] M M'

theorem Ch.refl (S : List Nat) (M : Store) : Ch S M M := ⟨Nat.le_refl _, fun _ _ _ => rfl, [], rfl, fun _ h => by cases h⟩
theorem Ch.trans' {S S' : List Nat} {M M1 M2 : Store} (h : Ch S M M1) (k : Ch S' M1 M2) (hs : ∀ b ∈ S', b ∈ S ∨ M.n ≤ b) : Ch S M M2 := by
  obtain ⟨t, ht, h1⟩ := h.log
  obtain ⟨t', ht', h2⟩ := k.log
  refine ⟨Nat.le_trans h.n k.n, fun i hi hn => ?_, t' ++ t, by rw [ht', ht, List.append_assoc], fun b hb => ?_⟩
  · rw [k.get i (Nat.lt_of_lt_of_le hi h.n) (fun hm => by rcases hs i hm with h3 | h3; exact hn h3; omega), h.get i hi hn]
  · rcases List.mem_append.1 hb with hb | hb
    · rcases h2 b hb with h3 | h3
      · exact .inl (Nat.le_trans h.n h3)
      · exact (hs b h3).symm
    · exact h1 b hb
theorem Ch.trans {S : List Nat} {M M1 M2 : Store} (h : Ch S M M1) (k : Ch S M1 M2) : Ch S M M2 := h.trans' k fun _ hb => .inl hb
theorem Ch.up {S : List Nat} {M M1 M2 : Store} (h : Ch S M M1) (k : Up M1 M2) : Ch S M M2 := h.trans' k fun _ hb => by cases hb
theorem Up.ch {S : List Nat} {M M1 M2 : Store} (h : Up M M1) (k : Ch S M1 M2) (hs : ∀ b ∈ S, M.n ≤ b) : Up M M2 := h.trans' k fun b hb => .inr (hs b hb)
theorem Ch.mono {S S' : List Nat} {M M' : Store} (h : Ch S M M') (hs : ∀ b ∈ S, b ∈ S') : Ch S' M M' := by
  obtain ⟨t, ht, h1⟩ := h.log
  exact ⟨h.n, fun i hi hn => h.get i hi fun hm => hn (hs _ hm), t, ht, fun b hb => (h1 b hb).imp id (hs b)⟩
theorem Up.any {S : List Nat} {M M' : Store} (h : Up M M') : Ch S M M' := h.mono fun _ hb => by cases hb
theorem Up.push (M : Store) (o : AObj) : Up M (M.push o) :=
  ⟨Nat.le_succ _, fun i hi _ => Store.get_push_ne M o (Nat.ne_of_lt hi), [], rfl, fun _ h => by cases h⟩
theorem Up.push' {M M1 : Store} (h : Up M M1) (o : AObj) : Up M (M1.push o) := h.trans (Up.push _ _)
theorem Ch.set {M : Store} {b : Nat} {x} (hb : M.get b = some x) (o : AObj) : Ch [b] M (M.set b o) :=
  ⟨by simp, fun i hi hn => Store.get_set_ne M o (fun e => hn (by simp [e])), [b], Store.set_log M o hb, fun c hc => .inr hc⟩
theorem Up.set {M M1 : Store} (h : Up M M1) {b : Nat} {x} (hb : M1.get b = some x) (hn : M.n ≤ b) (o : AObj) : Up M (M1.set b o) :=
  h.ch (Ch.set hb o) fun c hc => by simp at hc; omega
theorem Up.get {M M' : Store} (h : Up M M') {i : Nat} {x} (hi : M.get i = some x) : M'.get i = some x := by
  rw [Ch.get h i (M.lt_of_get hi) (by simp), hi]
theorem Ch.tdiff {S : List Nat} {M M' : Store} (h : Ch S M M') : ∀ b ∈ tdiff M M', M.n ≤ b ∨ b ∈ S := by
  obtain ⟨t, ht, h1⟩ := h.log
  intro b hb
  unfold Go.Ab.tdiff at hb
  rw [ht] at hb
  have e : (t ++ M.log).length - M.log.length = t.length := by simp
  rw [e, List.take_left'] at hb
  · exact h1 b hb
  · rfl
theorem Up.fr {M M' : Store} (h : Up M M') : ∀ b ∈ Go.Ab.tdiff M M', M.n ≤ b := fun b hb => by
  rcases h.tdiff b hb with h | h
  · exact h
  · cases h
theorem Up.le {M M' : Store} (h : Up M M') : M.n ≤ M'.n := Ch.n h
theorem Up.tdx {M M' : Store} (h : Up M M') (bs Ns : List Nat) (i : Nat) : TDx bs Ns i M M' := ⟨h.le, fun b hb => .inl (h.fr b hb)⟩
theorem Up.tdj {M M' : Store} (h : Up M M') (js Ns : List Nat) : TDj js Ns M M' := ⟨h.le, fun b hb => .inl (h.fr b hb)⟩

/-! ## slices -/
/-- A slice of n elements of s cells each: the cells, one behind the other. -/
structure Sl (s : Nat) (e : TypeId) (M : Store) (v : Value) (n : Nat) (cs : List Value) : Prop where
  len : cs.length = n * s
  is : ∃ a c, v = .slice a n c ∧ (∀ x, a = some x → x.spot = none) ∧
    (0 < n → ∃ b o cells e' own, a = some ⟨b, o, none⟩ ∧ M.get b = some (.inl (cells, e', own)) ∧ (own = true → e' = e) ∧ o + n * s ≤ cells.length ∧ (cells.drop o).take (n * s) = cs)

theorem Sl.up {s e M M' v n cs} (h : Sl s e M v n cs) (k : Up M M') : Sl s e M' v n cs := by
  obtain ⟨h1, a, c, h2, h3, h4⟩ := h
  refine ⟨h1, a, c, h2, h3, fun hn => ?_⟩
  obtain ⟨b, o, cells, e', own, h5, h6, h7⟩ := h4 hn
  exact ⟨b, o, cells, e', own, h5, k.get h6, h7⟩
theorem Sl.nil (s e M) : Sl s e M (.slice none 0 0) 0 [] := ⟨by simp, none, 0, rfl, (fun _ h => by cases h), fun h => absurd h (Nat.lt_irrefl 0)⟩
theorem Sl.lenV {s e M v n cs} (h : Sl s e M v n cs) : lenV v = some (.int .i64 (n : Int)) := by
  obtain ⟨_, a, c, rfl, _⟩ := h; rfl
theorem Sl.slice {s e M v n cs} (h : Sl s e M v n cs) : ∃ a c, v = .slice a n c := by
  obtain ⟨_, a, c, rfl, _⟩ := h; exact ⟨_, _, rfl⟩
theorem row_of {M : Store} {b o k : Nat} {cells : List Value} {e' : TypeId} {own : Bool} (h : M.get b = some (.inl (cells, e', own))) (hl : o + k ≤ cells.length) : rowOf M b o k = some ((cells.drop o).take k) := by
  unfold rowOf; rw [h]; simp only [if_pos hl]
theorem Sl.at {s e M v n cs} (h : Sl s e M v n cs) {i : Nat} (hi : i < n) (k : IntKind) : ∃ p, ixA s v (.int k (i : Int)) = some p ∧ ∀ agg, ld s agg p M = valB agg ((cs.drop (i * s)).take s) := by
  obtain ⟨h1, a, c, rfl, h3, h4⟩ := h
  obtain ⟨b, o, cells, e', own, rfl, h6, h7, h8, h9⟩ := h4 (by omega)
  refine ⟨.pointer (some ⟨b, o + i * s, none⟩), ?_, fun agg => ?_⟩
  · simp only [ixA]
    rw [if_pos ⟨by omega, by omega, trivial⟩]; simp
  · simp only [ld]
    have hb : i * s + s ≤ n * s := by
      have := Nat.mul_le_mul_right s (show i + 1 ≤ n by omega)
      rw [Nat.add_mul, Nat.one_mul] at this; exact this
    rw [row_of h6 (by omega), Option.bind_some, ← h9, List.drop_take, List.drop_drop, List.take_take]
    congr 2
    omega
theorem addr_plus (b o k : Nat) : (⟨b, o, none⟩ : Addr).add k = ⟨b, o + k, none⟩ := by
  simp only [Addr.add]; split <;> simp [*]
theorem Sl.cut {s e M v n cs} (h : Sl s e M v n cs) {lo hi : Option Value} {l r : Nat} (hhi : abound hi n n = some r) (hlo : abound lo r 0 = some l) (hr : r ≤ n) (hl : l ≤ r) :
    ∃ v', slV s e v lo hi M = some v' ∧ Sl s e M v' (r - l) ((cs.drop (l * s)).take ((r - l) * s)) := by
  obtain ⟨h1, a, c, rfl, h3, h4⟩ := h
  have hlen : ((cs.drop (l * s)).take ((r - l) * s)).length = (r - l) * s := by
    have h5 : l * s + (r - l) * s ≤ n * s := by
      rw [← Nat.add_mul]; exact Nat.mul_le_mul_right s (by omega)
    simp; omega
  simp only [slV, hhi, hlo, Option.bind_some]
  by_cases hn : l = r
  · subst hn
    simp only [decide_true, Bool.true_or, if_true]
    refine ⟨_, rfl, hlen, _, _, rfl, ?_, fun h => by omega⟩
    intro x hx
    cases a with
    | none => cases hx
    | some y => simp at hx; subst hx; have := h3 y rfl; simp only [Addr.add]; split <;> simp [this]
  · obtain ⟨b, o, cells, e', own, rfl, h6, h7, h8, h9⟩ := h4 (by omega)
    have hel : elemOk M (some ⟨b, o, none⟩) e = true := by
      simp only [elemOk, h6]
      cases own with
      | false => rfl
      | true => simp [h7 rfl]
    rw [hel, Bool.or_true, if_pos rfl]
    refine ⟨_, rfl, hlen, _, _, rfl, ?_, fun _ => ⟨b, o + l * s, cells, e', own, by rw [Option.map_some, addr_plus], h6, h7, ?_, ?_⟩⟩
    · intro x hx; rw [Option.map_some, addr_plus] at hx; injection hx with hx; subst hx; rfl
    · have h5 : l * s + (r - l) * s ≤ n * s := by
        rw [← Nat.add_mul]; exact Nat.mul_le_mul_right s (by omega)
      omega
    · have h5 : l * s + (r - l) * s ≤ n * s := by
        rw [← Nat.add_mul]; exact Nat.mul_le_mul_right s (by omega)
      rw [← h9, List.drop_take, List.drop_drop, List.take_take]
      congr 1
      omega
theorem Sl.newV {s e M v n cs} (h : Sl s e M v n cs) : newV s v M = some (n, cs) := by
  obtain ⟨h1, a, c, rfl, h3, h4⟩ := h
  by_cases hn : n = 0
  · subst hn
    have : cs = [] := List.length_eq_zero_iff.1 (by simpa using h1)
    subst this
    cases a with
    | none => rfl
    | some x => obtain ⟨b, o, sp⟩ := x; have := h3 _ rfl; simp only at this; subst this; rfl
  · obtain ⟨b, o, cells, e', own, rfl, h6, h7, h8, h9⟩ := h4 (by omega)
    simp only [Go.Ab.newV, if_neg hn]
    rw [row_of h6 h8, h9]; rfl

/-- A slice that was made behind M0 (or an empty one): what is appended to it touches nothing that was there. -/
structure Nw (s : Nat) (e : TypeId) (M0 M : Store) (v : Value) (n : Nat) (cs : List Value) : Prop where
  len : cs.length = n * s
  is : (n = 0 ∧ ∃ a, v = .slice a 0 0 ∧ ∀ x, a = some x → x.spot = none) ∨
    ∃ b cells c, v = .slice (some ⟨b, 0, none⟩) n c ∧ M0.n ≤ b ∧ M.get b = some (.inl (cells, e, true)) ∧ n * s ≤ cells.length ∧ cells.take (n * s) = cs ∧ (c = n ∨ c = n + 1)

theorem Nw.sl {s e M0 M v n cs} (h : Nw s e M0 M v n cs) : Sl s e M v n cs := by
  obtain ⟨h1, ⟨rfl, a, rfl, h2⟩ | ⟨b, cells, c, rfl, h2, h3, h4, h5, h6⟩⟩ := h
  · exact ⟨h1, a, 0, rfl, h2, fun h => by omega⟩
  · exact ⟨h1, _, c, rfl, fun x hx => by simp at hx; subst hx; rfl, fun _ => ⟨b, 0, cells, e, true, rfl, h3, fun _ => rfl, by omega, by simpa using h5⟩⟩
theorem Nw.up {s e M0 M M' v n cs} (h : Nw s e M0 M v n cs) (k : Up M M') : Nw s e M0 M' v n cs := by
  obtain ⟨h1, h | ⟨b, cells, c, h2, h3, h4, h5⟩⟩ := h
  · exact ⟨h1, .inl h⟩
  · exact ⟨h1, .inr ⟨b, cells, c, h2, h3, k.get h4, h5⟩⟩
theorem Nw.base {s e M0 M1 M v n cs} (h : Nw s e M1 M v n cs) (k : M0.n ≤ M1.n) : Nw s e M0 M v n cs := by
  obtain ⟨h1, h | ⟨b, cells, c, h2, h3, h4, h5⟩⟩ := h
  · exact ⟨h1, .inl h⟩
  · exact ⟨h1, .inr ⟨b, cells, c, h2, Nat.le_trans k h3, h4, h5⟩⟩
theorem Nw.nil (s e M0 M) : Nw s e M0 M (.slice none 0 0) 0 [] := ⟨by simp, .inl ⟨rfl, none, rfl, fun _ h => by cases h⟩⟩
/-- What a literal makes. -/
theorem Nw.lit {s e : Nat} {M0 M : Store} (hu : M0.n ≤ M.n) {n : Nat} {cs : List Value} (hl : cs.length = n * s) : Nw s e M0 (M.push (some (.inl (cs, e, true)))) (.slice (some ⟨M.n, 0, none⟩) n n) n cs :=
  ⟨hl, .inr ⟨M.n, cs, n, rfl, hu, Store.get_push_eq _ _, by omega, by rw [← hl]; simp, .inl rfl⟩⟩
theorem Nw.lit1 {s e : Nat} {M0 M : Store} (hu : M0.n ≤ M.n) {n : Nat} {cs : List Value} (hl : cs.length = n * s) : Nw s e M0 (M.push (some (.inl (cs, e, true)))) (.slice (some ⟨M.n, 0, none⟩) n (n + 1)) n cs :=
  ⟨hl, .inr ⟨M.n, cs, n + 1, rfl, hu, Store.get_push_eq _ _, by omega, by rw [← hl]; simp, .inr rfl⟩⟩

/-- The object that dies where a slice is appended to. -/
def kil (v : Value) : Option Nat := match v with
  | .slice (some a) n c => if c = n then none else some a.block
  | _ => none

abbrev kl (v : Value) : List Nat := (kil v).toList
theorem Nw.appG2 {s e M0 Mb M v n cs} (hu : Up M0 M) (h0b : M0.n ≤ Mb.n) (hbm : Mb.n ≤ M.n) (h : Nw s e Mb M v n cs) {m : Nat} {ys : List Value} (hm : ys.length = m * s) (hz : n + m ≤ 2 ^ 28) :
    ∃ v' M', appG s e v (m, ys) M = some (v', M') ∧ Up M0 M' ∧ Nw s e Mb M' v' (n + m) (cs ++ ys) ∧ M.n ≤ M'.n ∧ (∀ i, i < M.n → kil v ≠ some i → M'.get i = M.get i) ∧ Ch (kl v) M M' := by
  obtain ⟨h1, hd⟩ := h
  have hlen : (cs ++ ys).length = (n + m) * s := by rw [List.length_append, h1, hm, Nat.add_mul]
  by_cases h0 : m = 0
  · subst h0
    have hy : ys = [] := List.length_eq_zero_iff.1 (by simpa using hm)
    subst hy
    refine ⟨v, M, ?_, hu, by simpa using (⟨h1, hd⟩ : Nw s e Mb M v n cs), Nat.le_refl _, fun _ _ _ => rfl, Ch.refl _ _⟩
    rcases hd with ⟨rfl, a, rfl, h2⟩ | ⟨b, cells, c, rfl, h2⟩
    · simp [Go.Ab.appG]
    · simp [Go.Ab.appG]
  · have fresh : ∀ M1 : Store, M.n = M1.n → Up M0 M1 → (∀ i, i < M.n → kil v ≠ some i → M1.get i = M.get i) → Ch (kl v) M M1 →
        ∃ v' M', some (Value.slice (some ⟨M.n, 0, none⟩) (n + m) (n + m + 1), M1.push (some (.inl (cs ++ ys, e, true)))) = some (v', M') ∧ Up M0 M' ∧ Nw s e Mb M' v' (n + m) (cs ++ ys) ∧ M.n ≤ M'.n ∧ (∀ i, i < M.n → kil v ≠ some i → M'.get i = M.get i) ∧ Ch (kl v) M M' := by
      intro M1 hn hu1 hg hch
      refine ⟨_, _, rfl, hu1.push' _, ?_, by simp; omega, (fun i hi hb => by rw [Store.get_push_ne _ _ (by omega), hg i hi hb]), hch.up (Up.push _ _)⟩
      rw [hn]
      exact Nw.lit1 (by omega) hlen
    rcases hd with ⟨rfl, a, rfl, h2⟩ | ⟨b, cells, c, rfl, h2, h3, h4, h5, h6⟩
    · have hc : cs = [] := List.length_eq_zero_iff.1 (by simpa using h1)
      subst hc
      simp only [Go.Ab.appG, if_neg h0, if_pos hz]
      have := fresh M rfl hu (fun _ _ _ => rfl) (Ch.refl _ _)
      cases a with
      | none => simpa [agrow] using this
      | some x => obtain ⟨b, o, sp⟩ := x; have h7 := h2 _ rfl; simp only at h7; subst h7; simpa [agrow] using this
    · simp only [Go.Ab.appG, if_neg h0, if_pos hz]
      rcases h6 with rfl | rfl
      · simp only [agrow, if_true]
        by_cases hn : c = 0
        · subst hn
          have hc : cs = [] := List.length_eq_zero_iff.1 (by simpa using h1)
          subst hc
          have := fresh M rfl hu (fun _ _ _ => rfl) (Ch.refl _ _)
          simpa using this
        · rw [if_neg hn, row_of h3 (by omega)]
          simp only [List.drop_zero, h5, Option.bind_some]
          exact fresh M rfl hu (fun _ _ _ => rfl) (Ch.refl _ _)
      · simp only [agrow]
        rw [if_neg (by omega), if_pos trivial]
        simp only [h3]
        rw [if_pos ⟨trivial, h4, trivial⟩, h5]
        refine fresh (M.set b none) (by simp) (hu.set h3 (Nat.le_trans h0b h2) _) (fun i hi hb => Store.get_set_ne _ _ (fun e => hb ?_)) ?_
        · simp [kil, e]
        · have : kl (.slice (some ⟨b, 0, none⟩) n (n + 1)) = [b] := by simp [kl, kil]
          rw [this]; exact Ch.set h3 _

theorem Nw.appG {s e M0 M v n cs} (hu : Up M0 M) (h : Nw s e M0 M v n cs) {m : Nat} {ys : List Value} (hm : ys.length = m * s) (hz : n + m ≤ 2 ^ 28) :
    ∃ v' M', appG s e v (m, ys) M = some (v', M') ∧ Up M0 M' ∧ Nw s e M0 M' v' (n + m) (cs ++ ys) ∧ M.n ≤ M'.n ∧ (∀ i, i < M.n → kil v ≠ some i → M'.get i = M.get i) ∧ Ch (kl v) M M' :=
  Nw.appG2 hu (Nat.le_refl _) hu.le h hm hz
theorem Nw.kil_ge {s e Mb M v n cs} (h : Nw s e Mb M v n cs) {i : Nat} (hi : kil v = some i) : Mb.n ≤ i := by
  obtain ⟨h1, ⟨rfl, a, rfl, h2⟩ | ⟨b, cells, c, rfl, h2, h3, h4⟩⟩ := h
  · cases a <;> simp [kil] at hi
  · simp only [kil] at hi
    split at hi
    · cases hi
    · injection hi with hi; subst hi; exact h2
theorem Nw.appV2 {s e M0 Mb M v n cs} (hu : Up M0 M) (h0b : M0.n ≤ Mb.n) (hbm : Mb.n ≤ M.n) (h : Nw s e Mb M v n cs) {e' : TypeId} {x : Value} {m : Nat} {ys : List Value} (hx : Sl s e' M x m ys) (hz : n + m ≤ 2 ^ 28) :
    ∃ v' M', appV s e v x M = some (v', M') ∧ Up M0 M' ∧ Nw s e Mb M' v' (n + m) (cs ++ ys) ∧ M.n ≤ M'.n ∧ (∀ i, i < M.n → kil v ≠ some i → M'.get i = M.get i) ∧ Ch (kl v) M M' := by
  simp only [Go.Ab.appV, hx.newV, Option.bind_some]
  exact h.appG2 hu h0b hbm hx.len hz

theorem Nw.appV {s e M0 M v n cs} (hu : Up M0 M) (h : Nw s e M0 M v n cs) {e' : TypeId} {x : Value} {m : Nat} {ys : List Value} (hx : Sl s e' M x m ys) (hz : n + m ≤ 2 ^ 28) :
    ∃ v' M', appV s e v x M = some (v', M') ∧ Up M0 M' ∧ Nw s e M0 M' v' (n + m) (cs ++ ys) ∧ M.n ≤ M'.n ∧ (∀ i, i < M.n → kil v ≠ some i → M'.get i = M.get i) ∧ Ch (kl v) M M' := by
  simp only [Go.Ab.appV, hx.newV, Option.bind_some]
  exact h.appG hu hx.len hz

/-! ## bytes -/
def bv (x : UInt8) : Value := .int .u8 (x.toNat : Int)
abbrev By (e : TypeId) (M : Store) (v : Value) (l : List UInt8) : Prop := Sl 1 e M v l.length (l.map bv)
abbrev NB (e : TypeId) (M0 M : Store) (v : Value) (l : List UInt8) : Prop := Nw 1 e M0 M v l.length (l.map bv)
theorem By.at {e M v l} (h : By e M v l) {i : Nat} (hi : i < l.length) (k : IntKind) : ∃ p, ixA 1 v (.int k (i : Int)) = some p ∧ ld 1 false p M = some (bv l[i]) := by
  obtain ⟨p, h1, h2⟩ := Sl.at h hi k
  refine ⟨p, h1, ?_⟩
  rw [h2 false]
  have : ((l.map bv).drop (i * 1)).take 1 = [bv l[i]] := by
    rw [Nat.mul_one, ← List.map_drop, ← List.map_take, List.drop_eq_getElem_cons hi]; rfl
  rw [this]; rfl
theorem By.cut {e M v l} (h : By e M v l) {lo hi : Option Value} {a r : Nat} (hhi : abound hi l.length l.length = some r) (hlo : abound lo r 0 = some a) (hr : r ≤ l.length) (ha : a ≤ r) :
    ∃ v', slV 1 e v lo hi M = some v' ∧ By e M v' ((l.take r).drop a) := by
  obtain ⟨v', h1, h2⟩ := Sl.cut h hhi hlo hr ha
  refine ⟨v', h1, ?_⟩
  have e1 : ((l.take r).drop a).length = r - a := by simp; omega
  have e2 : ((l.map bv).drop (a * 1)).take ((r - a) * 1) = ((l.take r).drop a).map bv := by
    simp only [Nat.mul_one]
    rw [List.map_drop, List.map_take, List.drop_take]
  unfold By
  rw [e1, ← e2]; exact h2
theorem NB.by {e M0 M v l} (h : NB e M0 M v l) : By e M v l := Nw.sl h
theorem NB.app {e M0 M v l} (hu : Up M0 M) (h : NB e M0 M v l) {e' x k} (hx : By e' M x k) (hz : l.length + k.length ≤ 2 ^ 28) :
    ∃ v' M', Go.Ab.appV 1 e v x M = some (v', M') ∧ Up M0 M' ∧ NB e M0 M' v' (l ++ k) ∧ M.n ≤ M'.n ∧ (∀ i, i < M.n → kil v ≠ some i → M'.get i = M.get i) ∧ Ch (kl v) M M' := by
  have := Nw.appV hu h hx hz
  unfold NB
  rw [List.length_append, List.map_append]
  exact this

/-! ## rows -/
def Each {α : Type} (E : Value → α → Prop) : List Value → List α → Prop
  | [], [] => True
  | v :: vs, x :: xs => E v x ∧ Each E vs xs
  | _, _ => False
theorem Each.length {α : Type} {E : Value → α → Prop} : ∀ {vs : List Value} {xs : List α}, Each E vs xs → vs.length = xs.length
  | [], [], _ => rfl
  | _ :: _, _ :: _, h => by simp [Each.length h.2]
  | [], _ :: _, h => h.elim
  | _ :: _, [], h => h.elim
theorem Each.get {α : Type} {E : Value → α → Prop} : ∀ {vs : List Value} {xs : List α}, Each E vs xs → ∀ i (h : i < xs.length), ∃ w, vs[i]? = some w ∧ E w xs[i]
  | [], [], _, i, h => by simp at h
  | v :: _, _ :: _, h, 0, _ => ⟨v, rfl, h.1⟩
  | _ :: _, _ :: _, h, i + 1, hi => Each.get h.2 i (by simpa using hi)
  | [], _ :: _, h, _, _ => h.elim
  | _ :: _, [], h, _, _ => h.elim
theorem Each.mono {α : Type} {E E' : Value → α → Prop} (k : ∀ v x, E v x → E' v x) : ∀ {vs : List Value} {xs : List α}, Each E vs xs → Each E' vs xs
  | [], [], _ => trivial
  | _ :: _, _ :: _, h => ⟨k _ _ h.1, Each.mono k h.2⟩
  | [], _ :: _, h => h.elim
  | _ :: _, [], h => h.elim
theorem Each.append {α : Type} {E : Value → α → Prop} : ∀ {vs ws : List Value} {xs ys : List α}, Each E vs xs → Each E ws ys → Each E (vs ++ ws) (xs ++ ys)
  | [], _, [], _, _, k => k
  | _ :: _, _, _ :: _, _, h, k => ⟨h.1, Each.append h.2 k⟩
  | [], _, _ :: _, _, h, _ => h.elim
  | _ :: _, _, [], _, h, _ => h.elim
theorem Each.drop {α : Type} {E : Value → α → Prop} : ∀ {vs : List Value} {xs : List α} (n : Nat), Each E vs xs → Each E (vs.drop n) (xs.drop n)
  | _, _, 0, h => h
  | [], [], _ + 1, _ => trivial
  | _ :: _, _ :: _, n + 1, h => Each.drop n h.2
  | [], _ :: _, _ + 1, h => h.elim
  | _ :: _, [], _ + 1, h => h.elim
theorem Each.take {α : Type} {E : Value → α → Prop} : ∀ {vs : List Value} {xs : List α} (n : Nat), Each E vs xs → Each E (vs.take n) (xs.take n)
  | _, _, 0, _ => by simp [Each]
  | [], [], _ + 1, _ => trivial
  | _ :: _, _ :: _, n + 1, h => ⟨h.1, Each.take n h.2⟩
  | [], _ :: _, _ + 1, h => h.elim
  | _ :: _, [], _ + 1, h => h.elim
/-- A slice whose elements are one cell each. -/
def Ls {α : Type} (E : Store → Value → α → Prop) (e : TypeId) (M : Store) (v : Value) (xs : List α) : Prop := ∃ vs, Sl 1 e M v xs.length vs ∧ Each (E M) vs xs
/-- The same, made behind M0. -/
def NLs {α : Type} (E : Store → Value → α → Prop) (e : TypeId) (M0 M : Store) (v : Value) (xs : List α) : Prop := ∃ vs, Nw 1 e M0 M v xs.length vs ∧ Each (E M) vs xs
theorem NLs.ls {α : Type} {E : Store → Value → α → Prop} {e M0 M v} {xs : List α} (h : NLs E e M0 M v xs) : Ls E e M v xs := by
  obtain ⟨vs, h1, h2⟩ := h; exact ⟨vs, h1.sl, h2⟩
theorem NLs.nil {α : Type} {E : Store → Value → α → Prop} {e M0 M} : NLs (α := α) E e M0 M (.slice none 0 0) [] := ⟨[], Nw.nil _ _ _ _, trivial⟩
theorem Ls.up {α : Type} {E : Store → Value → α → Prop} (hE : ∀ M M' v x, E M v x → Up M M' → E M' v x) {e M M' v} {xs : List α} (h : Ls E e M v xs) (k : Up M M') : Ls E e M' v xs := by
  obtain ⟨vs, h1, h2⟩ := h; exact ⟨vs, h1.up k, h2.mono fun v x h => hE _ _ _ _ h k⟩
theorem NLs.up {α : Type} {E : Store → Value → α → Prop} (hE : ∀ M M' v x, E M v x → Up M M' → E M' v x) {e M0 M M' v} {xs : List α} (h : NLs E e M0 M v xs) (k : Up M M') : NLs E e M0 M' v xs := by
  obtain ⟨vs, h1, h2⟩ := h; exact ⟨vs, h1.up k, h2.mono fun v x h => hE _ _ _ _ h k⟩
theorem NLs.base {α : Type} {E : Store → Value → α → Prop} {e M0 M1 M v} {xs : List α} (h : NLs E e M1 M v xs) (k : M0.n ≤ M1.n) : NLs E e M0 M v xs := by
  obtain ⟨vs, h1, h2⟩ := h; exact ⟨vs, h1.base k, h2⟩
theorem Ls.lenV {α : Type} {E : Store → Value → α → Prop} {e M v} {xs : List α} (h : Ls E e M v xs) : Go.Ab.lenV v = some (.int .i64 (xs.length : Int)) := by
  obtain ⟨vs, h1, _⟩ := h; exact h1.lenV
theorem Ls.at {α : Type} {E : Store → Value → α → Prop} {e M v} {xs : List α} (h : Ls E e M v xs) {i : Nat} (hi : i < xs.length) (k : IntKind) : ∃ p w, ixA 1 v (.int k (i : Int)) = some p ∧ ld 1 false p M = some w ∧ E M w xs[i] := by
  obtain ⟨vs, h1, h2⟩ := h
  obtain ⟨w, hw, hE⟩ := h2.get i hi
  obtain ⟨p, h3, h4⟩ := h1.at hi k
  refine ⟨p, w, h3, ?_, hE⟩
  have hl : i < vs.length := (List.getElem?_eq_some_iff.1 hw).1
  rw [h4 false, Nat.mul_one, List.drop_eq_getElem_cons hl]
  have : vs[i] = w := (List.getElem?_eq_some_iff.1 hw).2
  rw [this]; rfl
theorem Ls.cut {α : Type} {E : Store → Value → α → Prop} {e M v} {xs : List α} (h : Ls E e M v xs) {lo hi : Option Value} {a r : Nat} (hhi : abound hi xs.length xs.length = some r) (hlo : abound lo r 0 = some a) (hr : r ≤ xs.length) (ha : a ≤ r) :
    ∃ v', slV 1 e v lo hi M = some v' ∧ Ls E e M v' ((xs.take r).drop a) := by
  obtain ⟨vs, h1, h2⟩ := h
  obtain ⟨v', h3, h4⟩ := Sl.cut h1 hhi hlo hr ha
  have e1 : ((xs.take r).drop a).length = r - a := by simp; omega
  refine ⟨v', h3, (vs.take r).drop a, ?_, (h2.take r).drop a⟩
  rw [e1, List.drop_take]
  simpa using h4
/-- All is as it was but for what is made of elements of one type. -/
def Keep (e : TypeId) (M M' : Store) : Prop := M.n ≤ M'.n ∧ ∀ i x, M.get i = some x → (∀ cells, x ≠ .inl (cells, e, true)) → M'.get i = some x
theorem Up.keep {e : TypeId} {M M' : Store} (h : Up M M') : Keep e M M' := ⟨h.le, fun i x hi _ => h.get hi⟩
theorem Keep.trans {e : TypeId} {M M1 M2 : Store} (h : Keep e M M1) (k : Keep e M1 M2) : Keep e M M2 := ⟨Nat.le_trans h.1 k.1, fun i x hi hx => k.2 i x (h.2 i x hi hx) hx⟩
theorem Sl.keep {s e' M M' v n cs} (h : Sl s e' M v n cs) {e : TypeId} (hne : e' ≠ e) (k : Keep e M M') : Sl s e' M' v n cs := by
  obtain ⟨h1, a, c, h2, h3, h4⟩ := h
  refine ⟨h1, a, c, h2, h3, fun hn => ?_⟩
  obtain ⟨b, o, cells, t, own, h5, h6, h7, h8⟩ := h4 hn
  refine ⟨b, o, cells, t, own, h5, k.2 _ _ h6 ?_, h7, h8⟩
  intro cells' he
  injection he with he
  simp only [Prod.mk.injEq] at he
  obtain ⟨_, rfl, rfl⟩ := he
  exact hne (h7 rfl).symm
theorem Nw.keep {s e' M0 M M' v n cs} (h : Nw s e' M0 M v n cs) {e : TypeId} (hne : e' ≠ e) (k : Keep e M M') : Nw s e' M0 M' v n cs := by
  obtain ⟨h1, h | ⟨b, cells, c, h2, h3, h4, h5⟩⟩ := h
  · exact ⟨h1, .inl h⟩
  · refine ⟨h1, .inr ⟨b, cells, c, h2, h3, k.2 _ _ h4 ?_, h5⟩⟩
    intro cells' he
    injection he with he
    simp only [Prod.mk.injEq] at he
    exact hne he.2.1
theorem Nw.keeps {s e M0 M v n cs} (h : Nw s e M0 M v n cs) {M' : Store} (hn : M.n ≤ M'.n) (hf : ∀ i, i < M.n → kil v ≠ some i → M'.get i = M.get i) : Keep e M M' := by
  refine ⟨hn, fun i x hi hx => ?_⟩
  rw [hf i (M.lt_of_get hi) ?_, hi]
  intro hb
  obtain ⟨h1, ⟨rfl, a, rfl, h2⟩ | ⟨b, cells, c, rfl, h2, h3, h4⟩⟩ := h
  · cases a <;> simp [kil] at hb
  · simp only [kil] at hb
    split at hb
    · cases hb
    injection hb with hb
    subst hb
    rw [h3] at hi
    injection hi with hi
    exact hx _ hi.symm
/-- One element more. -/
theorem NLs.app1 {α : Type} {E : Store → Value → α → Prop} {e M0 M v w} {xs : List α} {x : α} (hE : ∀ M M' v x, E M v x → Keep e M M' → E M' v x) (hu : Up M0 M) (h : NLs E e M0 M v xs) (hx : E M w x) (hz : xs.length + 1 ≤ 2 ^ 28) :
    ∃ v' M', Go.Ab.appV 1 e v (.slice (some ⟨M.n, 0, none⟩) 1 1) (M.push (some (.inl ([w], e, true)))) = some (v', M') ∧ Up M0 M' ∧ NLs E e M0 M' v' (xs ++ [x]) ∧ Keep e M M' := by
  obtain ⟨vs, h1, h2⟩ := h
  have hw : Nw 1 e M0 (M.push (some (.inl ([w], e, true)))) (.slice (some ⟨M.n, 0, none⟩) 1 1) 1 [w] := Nw.lit (n := 1) hu.le (by simp)
  have h1' := h1.up (Up.push M (some (.inl ([w], e, true))))
  obtain ⟨v', M', e1, hu', hN, hn, hf, _⟩ := Nw.appV (hu.push' _) h1' hw.sl hz
  have hk : Keep e M M' := (Up.push M (some (.inl ([w], e, true)))).keep.trans (h1'.keeps hn hf)
  exact ⟨v', M', e1, hu', ⟨vs ++ [w], by simpa using hN, (h2.mono fun v x h => hE _ _ _ _ h hk).append ⟨hE _ _ _ _ hx hk, trivial⟩⟩, hk⟩

/-- One element more, behind a later store. -/
theorem NLs.app2 {α : Type} {E : Store → Value → α → Prop} {e M0 Mb M v w} {xs : List α} {x : α} (hE : ∀ M M' v x, E M v x → Keep e M M' → E M' v x) (hu : Up M0 M) (h0b : M0.n ≤ Mb.n) (hbm : Mb.n ≤ M.n) (h : NLs E e Mb M v xs) (hx : E M w x) (hz : xs.length + 1 ≤ 2 ^ 28) :
    ∃ v' M', Go.Ab.appV 1 e v (.slice (some ⟨M.n, 0, none⟩) 1 1) (M.push (some (.inl ([w], e, true)))) = some (v', M') ∧ Up M0 M' ∧ NLs E e Mb M' v' (xs ++ [x]) ∧ Keep e M M' ∧ (∀ i, i < Mb.n → M'.get i = M.get i) := by
  obtain ⟨vs, h1, h2⟩ := h
  have hw : Nw 1 e M0 (M.push (some (.inl ([w], e, true)))) (.slice (some ⟨M.n, 0, none⟩) 1 1) 1 [w] := Nw.lit (n := 1) hu.le (by simp)
  have h1' := h1.up (Up.push M (some (.inl ([w], e, true))))
  obtain ⟨v', M', e1, hu', hN, hn, hf, _⟩ := Nw.appV2 (hu.push' _) h0b (by simp; omega) h1' hw.sl hz
  have hk : Keep e M M' := (Up.push M (some (.inl ([w], e, true)))).keep.trans (h1'.keeps hn hf)
  refine ⟨v', M', e1, hu', ⟨vs ++ [w], by simpa using hN, (h2.mono fun v x h => hE _ _ _ _ h hk).append ⟨hE _ _ _ _ hx hk, trivial⟩⟩, hk, fun i hi => ?_⟩
  rw [hf i (by simp; omega) fun he => by have := h1.kil_ge he; omega, Store.get_push_ne _ _ (by omega)]
/-- All cells are as they were. -/
def KeepI (M M' : Store) : Prop := M.n ≤ M'.n ∧ ∀ i x, M.get i = some (.inl x) → M'.get i = some (.inl x)
theorem Up.keepI {M M' : Store} (h : Up M M') : KeepI M M' := ⟨h.le, fun i x hi => h.get hi⟩
theorem KeepI.trans {M M1 M2 : Store} (h : KeepI M M1) (k : KeepI M1 M2) : KeepI M M2 := ⟨Nat.le_trans h.1 k.1, fun i x hi => k.2 i x (h.2 i x hi)⟩
theorem KeepI.setR {M : Store} {b : Nat} {x} (hb : M.get b = some (.inr x)) (o : AObj) : KeepI M (M.set b o) :=
  ⟨by simp, fun i y hi => by rw [Store.get_set_ne _ _ (fun e => by subst e; rw [hb] at hi; injection hi with hi; cases hi), hi]⟩
theorem Sl.keepI {s e M M' v n cs} (h : Sl s e M v n cs) (k : KeepI M M') : Sl s e M' v n cs := by
  obtain ⟨h1, a, c, h2, h3, h4⟩ := h
  refine ⟨h1, a, c, h2, h3, fun hn => ?_⟩
  obtain ⟨b, o, cells, t, own, h5, h6, h7, h8⟩ := h4 hn
  exact ⟨b, o, cells, t, own, h5, k.2 _ _ h6, h7, h8⟩
theorem Nw.keepI {s e M0 M M' v n cs} (h : Nw s e M0 M v n cs) (k : KeepI M M') : Nw s e M0 M' v n cs := by
  obtain ⟨h1, h | ⟨b, cells, c, h2, h3, h4, h5⟩⟩ := h
  · exact ⟨h1, .inl h⟩
  · exact ⟨h1, .inr ⟨b, cells, c, h2, h3, k.2 _ _ h4, h5⟩⟩
theorem NLs.keepI {α : Type} {E : Store → Value → α → Prop} (hE : ∀ M M' v x, E M v x → KeepI M M' → E M' v x) {e M0 M M' v} {xs : List α} (h : NLs E e M0 M v xs) (k : KeepI M M') : NLs E e M0 M' v xs := by
  obtain ⟨vs, h1, h2⟩ := h; exact ⟨vs, h1.keepI k, h2.mono fun v x h => hE _ _ _ _ h k⟩
theorem Ls.keepI {α : Type} {E : Store → Value → α → Prop} (hE : ∀ M M' v x, E M v x → KeepI M M' → E M' v x) {e M M' v} {xs : List α} (h : Ls E e M v xs) (k : KeepI M M') : Ls E e M' v xs := by
  obtain ⟨vs, h1, h2⟩ := h; exact ⟨vs, h1.keepI k, h2.mono fun v x h => hE _ _ _ _ h k⟩
theorem NLs.keep {α : Type} {E : Store → Value → α → Prop} {e' : TypeId} (hE : ∀ M M' v x, E M v x → Keep e' M M' → E M' v x) {e M0 M M' v} {xs : List α} (h : NLs E e M0 M v xs) (hne : e ≠ e') (k : Keep e' M M') : NLs E e M0 M' v xs := by
  obtain ⟨vs, h1, h2⟩ := h; exact ⟨vs, h1.keep hne k, h2.mono fun v x h => hE _ _ _ _ h k⟩
theorem Ls.keep {α : Type} {E : Store → Value → α → Prop} {e' : TypeId} (hE : ∀ M M' v x, E M v x → Keep e' M M' → E M' v x) {e M M' v} {xs : List α} (h : Ls E e M v xs) (hne : e ≠ e') (k : Keep e' M M') : Ls E e M' v xs := by
  obtain ⟨vs, h1, h2⟩ := h; exact ⟨vs, h1.keep hne k, h2.mono fun v x h => hE _ _ _ _ h k⟩

theorem Sl.chS {s e N N2 v n cs} (h : Sl s e N v n cs) {S : List Nat} (k : Ch S N N2) (hS : ∀ b ∈ S, (∃ cells T, N.get b = some (.inl (cells, T, true)) ∧ e ≠ T) ∨ ∃ r, N.get b = some (.inr r)) : Sl s e N2 v n cs := by
  obtain ⟨h1, a, c, h2, h3, h4⟩ := h
  refine ⟨h1, a, c, h2, h3, fun hn => ?_⟩
  obtain ⟨b, o, cells, t, own, h5, h6, h7, h8⟩ := h4 hn
  refine ⟨b, o, cells, t, own, h5, ?_, h7, h8⟩
  rw [k.get b (N.lt_of_get h6) fun hb => ?_, h6]
  rcases hS b hb with ⟨cells', T, h9, h10⟩ | ⟨r, h9⟩
  · rw [h9] at h6
    injection h6 with h6
    simp only [Sum.inl.injEq, Prod.mk.injEq] at h6
    obtain ⟨_, rfl, rfl⟩ := h6
    exact h10 (h7 rfl).symm
  · rw [h9] at h6; injection h6 with h6; cases h6
theorem Ch.at {S : List Nat} {M M' : Store} (h : Ch S M M') {i : Nat} {x} (hi : M.get i = some x) (hn : i ∉ S) : M'.get i = some x := by rw [h.get i (M.lt_of_get hi) hn, hi]

/-! ## records of ranges -/
def Rc (M : Store) (l : Nat) (r : LRec) : Prop := M.get l = some (.inr (.inr (some r)))
theorem Rc.of {M l r} (h : Rc M l r) : recOf M l = some r := by
  unfold recOf; rw [show M.get l = some (.inr (.inr (some r))) from h]
theorem Rc.put {M l r} (h : Rc M l r) (r' : LRec) : Rc (putRec M l r') l r' := Store.get_set_eq _ _ h
theorem Rc.ch {M l r} (h : Rc M l r) (r' : LRec) : Ch [l] M (putRec M l r') := Ch.set h _
theorem Rc.keepI {M l r} (h : Rc M l r) (r' : LRec) : KeepI M (putRec M l r') := KeepI.setR h _
theorem Rc.keep {M M' l r} {e : TypeId} (h : Rc M l r) (k : Keep e M M') : Rc M' l r := k.2 _ _ h fun _ he => by cases he
theorem Rc.up {M M' l r} (h : Rc M l r) (k : Up M M') : Rc M' l r := k.get h

/-! ## objects of a call's own -/
def Ob (M : Store) (b : Nat) (cells : List Value) (T : TypeId) : Prop := M.get b = some (.inl (cells, T, true))
theorem Ob.ld {M b cells T} (h : Ob M b cells T) {o : Nat} {v : Value} (hv : cells[o]? = some v) : Go.Ab.ld 1 false (.pointer (some ⟨b, o, none⟩)) M = some v := by
  obtain ⟨hl, hv⟩ := List.getElem?_eq_some_iff.1 hv
  simp only [Go.Ab.ld]
  rw [row_of h (by omega), Option.bind_some, List.drop_eq_getElem_cons hl, hv]; rfl
theorem Ob.ldA {M b cells T} (h : Ob M b cells T) {s : Nat} (hs : cells.length = s) : Go.Ab.ld s true (.pointer (some ⟨b, 0, none⟩)) M = some (.agg cells.toArray) := by
  simp only [Go.Ab.ld]
  rw [row_of h (by omega), Option.bind_some, List.drop_zero, List.take_of_length_le (by omega)]; rfl
theorem splice_one (c : List Value) (o : Nat) (v : Value) (h : o < c.length) : splice c o [v] = c.set o v := by
  simp only [splice, List.length_singleton]
  rw [List.set_eq_take_append_cons_drop, if_pos h]; simp
theorem Ob.st {M b cells T} (h : Ob M b cells T) {o : Nat} {v : Value} (ho : o < cells.length) (h1 : v.cells = #[v]) (h2 : v.oneCell' = true) :
    Go.Ab.st 1 (.pointer (some ⟨b, o, none⟩)) v M = some (M.set b (some (.inl (cells.set o v, T, true)))) := by
  simp only [Go.Ab.st]
  rw [show M.get b = some (.inl (cells, T, true)) from h]
  simp only [h1]
  rw [if_pos ⟨rfl, by show o + 1 ≤ cells.length; omega, by simp [h2]⟩]
  rw [splice_one _ _ _ ho]
theorem Ob.setSt {M b cells T} (h : Ob M b cells T) (c' : List Value) : Ob (M.set b (some (.inl (c', T, true)))) b c' T := Store.get_set_eq _ _ h
theorem Ob.up {M M' b cells T} (h : Ob M b cells T) (k : Up M M') : Ob M' b cells T := k.get h
theorem Ob.new (M : Store) (cells : List Value) (T : TypeId) : Ob (M.push (some (.inl (cells, T, true)))) M.n cells T := Store.get_push_eq _ _
theorem Ob.keepI {M M' b cells T} (h : Ob M b cells T) (k : KeepI M M') : Ob M' b cells T := k.2 _ _ h
theorem Ob.same {M M' : Store} {b : Nat} {cells : List Value} {T : TypeId} (h : Ob M b cells T) (k : M'.get b = M.get b) : Ob M' b cells T := by unfold Ob; rw [k]; exact h
theorem Ob.lt {M b cells T} (h : Ob M b cells T) : b < M.n := M.lt_of_get h
theorem Ob.keep {M b cells T} (h : Ob M b cells T) {e : TypeId} (hne : T ≠ e) {M' : Store} (k : Keep e M M') : Ob M' b cells T := k.2 _ _ h fun _ he => hne (by injection he with he; simp only [Prod.mk.injEq] at he; exact he.2.1)
theorem Ch.keepT {M M' : Store} {b : Nat} {cells : List Value} {T : TypeId} (h : Ch [b] M M') (hb : Ob M b cells T) : Keep T M M' :=
  ⟨h.n, fun i x hi hx => by
    by_cases e : i = b
    · subst e; rw [show M.get i = some (.inl (cells, T, true)) from hb] at hi; injection hi with hi; exact absurd hi.symm (hx cells)
    · rw [h.get i (M.lt_of_get hi) (by simpa using e), hi]⟩
theorem Ch.setO {M : Store} {b : Nat} {cells : List Value} {T : TypeId} (hb : Ob M b cells T) (o : AObj) : Ch [b] M (M.set b o) := Ch.set hb o

/-! ## numbers -/
theorem w64 {x : Int} (h1 : -9223372036854775808 ≤ x) (h2 : x ≤ 9223372036854775807) : IntKind.wrap .i64 x = x := by
  simp [IntKind.wrap, IntKind.bits, IntKind.signed]
  omega
theorem goInt_eq (n : Int) : goInt n = .int .i64 n := rfl

theorem abound_none (y d : Nat) : abound none y d = some d := rfl
theorem abound_some {k : IntKind} {i : Int} {y d : Nat} (h : 0 ≤ i) (h2 : i ≤ y) : abound (some (.int k i)) y d = some i.toNat := by
  simp only [abound]; rw [if_pos ⟨h, h2⟩]

theorem abound_nat {k : IntKind} {i y d : Nat} (h : i ≤ y) : abound (some (.int k (i : Int))) y d = some i := by
  rw [abound_some (by omega) (by omega), Int.toNat_natCast]

/-! ## stepping: what simp is told -/
theorem LT_eq (v : Value) (M : Store) (k : Value → Store → Prop) : LT v M k = k v M := rfl
theorem OPs {α : Type} {x : Option α} {v : α} (h : x = some v) (K : α → Prop) : OP x K = K v := by rw [h]; rfl
theorem BR_dec (p : Prop) [Decidable p] (A B : Prop) : BR (.bool (decide p)) A B = if p then A else B := by
  by_cases h : p <;> simp [BR, h]
theorem BR_bool (b : Bool) (A B : Prop) : BR (.bool b) A B = if b = true then A else B := by cases b <;> rfl
theorem e_add (k : IntKind) (a b : Int) (K : Value → Prop) : OP (binI .add (.int k a) (.int k b)) K = K (.int k (k.wrap (a + b))) := by cases k <;> rfl
theorem e_sub (k : IntKind) (a b : Int) (K : Value → Prop) : OP (binI .sub (.int k a) (.int k b)) K = K (.int k (k.wrap (a - b))) := by cases k <;> rfl
theorem e_mul (k : IntKind) (a b : Int) (K : Value → Prop) : OP (binI .mul (.int k a) (.int k b)) K = K (.int k (k.wrap (a * b))) := by cases k <;> rfl
theorem e_lss (k : IntKind) (a b : Int) (K : Value → Prop) : OP (binI .lss (.int k a) (.int k b)) K = K (.bool (decide (a < b))) := by cases k <;> rfl
theorem e_leq (k : IntKind) (a b : Int) (K : Value → Prop) : OP (binI .leq (.int k a) (.int k b)) K = K (.bool (decide (a ≤ b))) := by cases k <;> rfl
theorem e_gtr (k : IntKind) (a b : Int) (K : Value → Prop) : OP (binI .gtr (.int k a) (.int k b)) K = K (.bool (decide (a > b))) := by cases k <;> rfl
theorem e_geq (k : IntKind) (a b : Int) (K : Value → Prop) : OP (binI .geq (.int k a) (.int k b)) K = K (.bool (decide (a ≥ b))) := by cases k <;> rfl
theorem e_eql (k : IntKind) (a b : Int) (K : Value → Prop) : OP (binI .eql (.int k a) (.int k b)) K = K (.bool (decide (a = b))) := by cases k <;> rfl
theorem e_neq (k : IntKind) (a b : Int) (K : Value → Prop) : OP (binI .neq (.int k a) (.int k b)) K = K (.bool (decide (a ≠ b))) := by
  have : (a != b) = decide (a ≠ b) := by by_cases h : a = b <;> simp [h]
  cases k <;> simp [OP, binI, this]
theorem e_not (b : Bool) (K : Value → Prop) : OP (aun .not (.bool b)) K = K (.bool (!b)) := rfl
theorem e_cvI (k j : IntKind) (n : Int) (K : Value → Prop) : OP (cvI k (.int j n)) K = K (.int k (k.wrap n)) := rfl
theorem e_min (k j : IntKind) (a b : Int) (K : Value → Prop) : OP (amin2 (.int k a) (.int j b)) K = K (.int k (if b < a then b else a)) := rfl
theorem e_max (k j : IntKind) (a b : Int) (K : Value → Prop) : OP (amax2 (.int k a) (.int j b)) K = K (.int k (if b > a then b else a)) := rfl
theorem e_lenV (a : Option Addr) (n c : Nat) (K : Value → Prop) : OP (lenV (.slice a n c)) K = K (.int .i64 n) := rfl
theorem e_nilc (a : Addr) (K : Value → Prop) : OP (nilc (.pointer (some a))) K = K (.pointer (some a)) := rfl
theorem e_fad (f b o : Nat) (K : Value → Prop) : OP (fad f (.pointer (some ⟨b, o, none⟩))) K = K (.pointer (some ⟨b, o + f, none⟩)) := rfl
theorem e_tup (vs : Array Value) (i : Nat) (K : Value → Prop) : OP (tup (.tuple vs) i) K = OP (vs[i]?) K := rfl
theorem e_lit0 (z : Value) (K : List Value → Prop) : OP (bldL z 1 0 []) K = K [] := by kernel_rfl
theorem e_lit1 (z : Value) (k : IntKind) (n : Int) (K : List Value → Prop) : OP (bldL z 1 1 [(0, .int k n)]) K = K [.int k n] := by kernel_rfl
theorem e_lit4 (z : Value) (k0 k1 k2 k3 : IntKind) (n0 n1 n2 n3 : Int) (K : List Value → Prop) : OP (bldL z 1 4 [(0, .int k0 n0), (1, .int k1 n1), (2, .int k2 n2), (3, .int k3 n3)]) K = K [.int k0 n0, .int k1 n1, .int k2 n2, .int k3 n3] := by kernel_rfl
theorem e_nts (vs : List Value) : NTs vs = (vs.all notTuple = true) := rfl
theorem abin_nil {P : Program} {t e : TypeId} {cst : Bool} (h : P.underlying t = some (.slice e)) (a : Option Addr) (n c : Nat) (K : Value → Prop) : OP (abin P cst .eql t (.slice a n c) (.slice none 0 0)) K = K (.bool a.isNone) := by
  cases a <;> simp [abin, aeq, h, OP]
theorem e_shr {k j : IntKind} {a b : Int} (h : 0 ≤ b) (K : Value → Prop) : OP (binI .shr (.int k a) (.int j b)) K = K (.int k (a.fdiv (2 ^ (min b.toNat k.bits)))) := by
  simp only [binI]; rw [if_neg (by omega)]; rfl
theorem e_shl {k j : IntKind} {a b : Int} (h : 0 ≤ b) (K : Value → Prop) : OP (binI .shl (.int k a) (.int j b)) K = K (.int k (k.wrap (a * 2 ^ (min b.toNat k.bits)))) := by
  simp only [binI]; rw [if_neg (by omega)]; rfl
theorem or_add {a b i : Nat} (hb : b < 2 ^ i) (hi : i ≤ 32) (ha : a * 2 ^ i + b < 2 ^ 63) : binI .or (.int .i64 ((a * 2 ^ i : Nat) : Int)) (.int .i64 (b : Int)) = some (.int .i64 ((a * 2 ^ i + b : Nat) : Int)) := by
  have h : binI .or (.int .i64 ((a * 2 ^ i : Nat) : Int)) (.int .i64 (b : Int)) = some (.int .i64 (IntKind.wrap .i64 (BitVec.ofInt 64 ((a * 2 ^ i : Nat) : Int) ||| BitVec.ofInt 64 (b : Int)).toNat)) := rfl
  rw [h]
  have e1 : (BitVec.ofInt 64 ((a * 2 ^ i : Nat) : Int) ||| BitVec.ofInt 64 (b : Int)).toNat = a * 2 ^ i + b := by
    rw [BitVec.toNat_or, BitVec.toNat_ofInt, BitVec.toNat_ofInt]
    have h1 : (((a * 2 ^ i : Nat) : Int) % ((2 ^ 64 : Nat) : Int)).toNat = a * 2 ^ i := by omega
    have h2 : ((b : Int) % ((2 ^ 64 : Nat) : Int)).toNat = b := by omega
    rw [h1, h2, Nat.mul_comm, ← Nat.two_pow_add_eq_or_of_lt hb]
  rw [e1, w64 (by omega) (by omega)]
/-- All of these. -/
theorem ev : (∀ (α : Type) (v : α) (k : α → Prop), OP (some v) k = k v) ∧ (∀ v M k, OP2 (some (v, M)) k = k v M) ∧ (∀ v M k, LT v M k = k v M) ∧ (∀ A B, BR (.bool true) A B = A) ∧ (∀ A B, BR (.bool false) A B = B) ∧
    (∀ (p : Prop) [Decidable p] A B, BR (.bool (decide p)) A B = if p then A else B) ∧
    (∀ k a b K, OP (binI .add (.int k a) (.int k b)) K = K (.int k (k.wrap (a + b)))) ∧ (∀ k a b K, OP (binI .sub (.int k a) (.int k b)) K = K (.int k (k.wrap (a - b)))) ∧ (∀ k a b K, OP (binI .mul (.int k a) (.int k b)) K = K (.int k (k.wrap (a * b)))) ∧
    (∀ k a b K, OP (binI .lss (.int k a) (.int k b)) K = K (.bool (decide (a < b)))) ∧ (∀ k a b K, OP (binI .leq (.int k a) (.int k b)) K = K (.bool (decide (a ≤ b)))) ∧ (∀ k a b K, OP (binI .gtr (.int k a) (.int k b)) K = K (.bool (decide (a > b)))) ∧
    (∀ k a b K, OP (binI .geq (.int k a) (.int k b)) K = K (.bool (decide (a ≥ b)))) ∧ (∀ k a b K, OP (binI .eql (.int k a) (.int k b)) K = K (.bool (decide (a = b)))) ∧ (∀ k a b K, OP (binI .neq (.int k a) (.int k b)) K = K (.bool (decide (a ≠ b)))) ∧
    (∀ b K, OP (aun .not (.bool b)) K = K (.bool (!b))) ∧ (∀ k j n K, OP (cvI k (.int j n)) K = K (.int k (k.wrap n))) ∧ (∀ k j a b K, OP (amin2 (.int k a) (.int j b)) K = K (.int k (if b < a then b else a))) ∧ (∀ k j a b K, OP (amax2 (.int k a) (.int j b)) K = K (.int k (if b > a then b else a))) ∧
    (∀ a n c K, OP (lenV (.slice a n c)) K = K (.int .i64 (n : Int))) ∧ (∀ a K, OP (nilc (.pointer (some a))) K = K (.pointer (some a))) ∧ (∀ f b o K, OP (fad f (.pointer (some ⟨b, o, none⟩))) K = K (.pointer (some ⟨b, o + f, none⟩))) ∧
    (∀ z K, OP (bldL z 1 0 []) K = K []) ∧ (∀ z k n K, OP (bldL z 1 1 [(0, .int k n)]) K = K [.int k n]) :=
  ⟨fun _ _ _ => rfl, fun _ _ _ => rfl, fun _ _ _ => rfl, fun _ _ => rfl, fun _ _ => rfl, fun p _ A B => BR_dec p A B, e_add, e_sub, e_mul, e_lss, e_leq, e_gtr, e_geq, e_eql, e_neq, e_not, e_cvI, e_min, e_max, e_lenV, e_nilc, e_fad, e_lit0, e_lit1⟩

end Go.Ab
