/- Slices of plain values of several cells each. -/
import Derived.Test.YtnonfejhkbaikaaPKE
set_option linter.unusedVariables false
set_option linter.unusedSimpArgs false
namespace Go.Ab
open Go.RowKit
section
variable {α : Type} {k : Nat} {En : α → List Value}
theorem xw (hk : ∀ x, (En x).length = k) : ∀ (xs : List α) (i : Nat), (xs.flatMap En).drop (i * k) = (xs.drop i).flatMap En
 | [], i => by simp
 | x :: xs, 0 => by simp
 | x :: xs, i + 1 => by
  rw [List.flatMap_cons, List.drop_succ_cons, show (i + 1) * k = (En x).length + i * k by rw [hk, Nat.succ_mul]; omega, ← List.drop_drop, List.drop_left]
  exact xw hk xs i
theorem Cm (hk : ∀ x, (En x).length = k) : ∀ (xs : List α) (i : Nat), (xs.flatMap En).take (i * k) = (xs.take i).flatMap En
 | [], i => by simp
 | x :: xs, 0 => by simp
 | x :: xs, i + 1 => by
  rw [List.flatMap_cons, List.take_succ_cons, List.flatMap_cons, show (i + 1) * k = (En x).length + i * k by rw [hk, Nat.succ_mul]; omega, List.take_append, Nat.add_sub_cancel_left, List.take_of_length_le (by omega), Cm hk xs i]
theorem GY (hk : ∀ x, (En x).length = k) {xs : List α} {i : Nat} (h : i < xs.length) : ((xs.flatMap En).drop (i * k)).take k = En xs[i] := by
 rw [xw hk, List.drop_eq_getElem_cons h, List.flatMap_cons, ← hk xs[i], List.take_left]
end
section
variable {α : Type} (k : Nat) (En : α → List Value)
abbrev LK (e : TypeId) (M : Store) (v : Value) (xs : List α) : Prop := Sl k e M v xs.length (xs.flatMap En)
abbrev NK (e : TypeId) (M0 M : Store) (v : Value) (xs : List α) : Prop := Nw k e M0 M v xs.length (xs.flatMap En)
end
section
variable {α : Type} {k : Nat} {En : α → List Value} {e : TypeId} {M M0 M' : Store} {v : Value} {xs : List α}
theorem LK.at (hk : ∀ x, (En x).length = k) (h : LK k En e M v xs) {i : Nat} (hi : i < xs.length) (j : IntKind) : ∃ p, ixA k v (.int j (i : Int)) = some p ∧ ∀ agg, ld k agg p M = uV agg (En xs[i]) := by
 obtain ⟨p, h1, h2⟩ := Sl.at h hi j
 exact ⟨p, h1, fun agg => by rw [h2, GY hk hi]⟩
theorem LK.cut (hk : ∀ x, (En x).length = k) (h : LK k En e M v xs) {lo hi : Option Value} {a r : Nat} (hhi : ar hi xs.length xs.length = some r) (hlo : ar lo r 0 = some a) (hr : r ≤ xs.length) (ha : a ≤ r) :
    ∃ v', slV k e v lo hi M = some v' ∧ LK k En e M v' ((xs.take r).drop a) := by
 obtain ⟨v', h1, h2⟩ := Sl.cut h hhi hlo hr ha
 refine ⟨v', h1, ?_⟩
 have e1 : ((xs.take r).drop a).length = r - a := by simp; omega
 have e2 : ((xs.take r).drop a).flatMap En = ((xs.flatMap En).drop (a * k)).take ((r - a) * k) := by
  rw [xw hk, Cm hk, List.drop_take]
 unfold LK
 rw [e1, e2]; exact h2
theorem NK.lv (h : NK k En e M0 M v xs) : LK k En e M v xs := Nw.sl h
theorem NK.nil : NK k En e M0 M (.slice none 0 0) ([] : List α) := Nw.nil _ _ _ _
theorem LK.nil : LK k En e M (.slice none 0 0) ([] : List α) := Sl.nil _ _ _
theorem LK.up (h : LK k En e M v xs) (u : Up M M') : LK k En e M' v xs := Sl.up h u
theorem LK.len (h : LK k En e M v xs) : lenV v = some (.int .i64 (xs.length : Int)) := Sl.lenV h
theorem LK.fld (hk : ∀ x, (En x).length = k) (h : LK k En e M v xs) {i : Nat} (hi : i < xs.length) {f : Nat} {w : Value} (hf : (En xs[i])[f]? = some w) (j : IntKind) :
    ∃ b o, ixA k v (.int j (i : Int)) = some (.pointer (some ⟨b, o, none⟩)) ∧ Go.Ab.ld 1 false (.pointer (some ⟨b, o + f, none⟩)) M = some w := by
 obtain ⟨hfl, hfw⟩ := List.getElem?_eq_some_iff.1 hf
 rw [hk] at hfl
 obtain ⟨h1, a, c, rfl, h3, h4⟩ := h
 obtain ⟨b, o, cells, e', own, rfl, h6, h7, h8, h9⟩ := h4 (by omega)
 have hik : i * k + k ≤ xs.length * k := by
  have : (i + 1) * k ≤ xs.length * k := Nat.mul_le_mul_right k hi
  rw [Nat.succ_mul] at this; exact this
 refine ⟨b, o + i * k, ?_, ?_⟩
 ·simp only [ixA]; rw [if_pos ⟨by omega, by omega, trivial⟩]; simp
 ·simp only [Go.Ab.ld]
  rw [jS h6 (by omega), Option.bind_some, List.drop_eq_getElem_cons (by omega)]
  have e1 : cells[o + i * k + f]? = some w := by
   have e2 := congrArg (fun l => l[i * k + f]?) h9
   simp only [List.getElem?_take, List.getElem?_drop] at e2
   rw [if_pos (by omega), ← Nat.add_assoc] at e2
   rw [e2]
   have e3 := congrArg (fun l => l[f]?) (GY (En := En) hk hi)
   simp only [List.getElem?_take, List.getElem?_drop] at e3
   rw [if_pos hfl] at e3
   rw [e3]; exact hf
  rw [List.getElem?_eq_getElem (by omega)] at e1
  injection e1 with e1
  rw [e1]; rfl
theorem NK.app1 {Mb : Store} (hk : ∀ x, (En x).length = k) (hu : Up M0 M) (h0b : M0.n ≤ Mb.n) (hbm : Mb.n ≤ M.n) (h : NK k En e Mb M v xs) (x : α) {cs : List Value} (hw : cs = En x) (hz : xs.length + 1 ≤ 2 ^ 28) {K : Value → Store → Prop}
    (hK : ∀ v' M', Up M0 M' → NK k En e Mb M' v' (xs ++ [x]) → Ch (kl v) M M' → (∃ b, bx v' = some b ∧ M.n ≤ b ∧ b < M'.n) → K v' M') :
    OP2 (appV k e v (.slice (some ⟨M.n, 0, none⟩) 1 1) (M.push (some (.inl (cs, e, true))))) K := by
 subst hw
 have hx : Sl k e (M.push (some (.inl (En x, e, true)))) (.slice (some ⟨M.n, 0, none⟩) 1 1) 1 (En x) := (Nw.lit (M0 := M) (n := 1) (Nat.le_refl _) (by rw [hk]; omega)).sl
 have hup := Up.push M (some (.inl (En x, e, true)))
 obtain ⟨v', M', e1, hu', hN, hn, hf, hc⟩ := Nw.appV2 (hu.trans hup) h0b (by simp; omega) (Nw.up h hup) hx (by simpa using hz)
 rw [e1, ey]
 obtain ⟨a, c, rfl⟩ := h.sl.slice
 obtain ⟨hb1, hb2⟩ := Ap hx (by omega) e1
 refine hK v' M' hu' ?_ (Ch.trans' (Up.any hup) hc ?_) ⟨_, hb1, by simp, hb2⟩
 ·unfold NK
  rw [List.length_append, List.flatMap_append]
  simpa using hN
 ·intro b hb; exact .inl hb
theorem NK.apps {Mb : Store} (hu : Up M0 M) (h0b : M0.n ≤ Mb.n) (hbm : Mb.n ≤ M.n) (h : NK k En e Mb M v xs) {e' : TypeId} {w : Value} {ys : List α} (hw : LK k En e' M w ys) (hz : xs.length + ys.length ≤ 2 ^ 28) {K : Value → Store → Prop}
    (hK : ∀ v' M', Up M0 M' → NK k En e Mb M' v' (xs ++ ys) → Ch (kl v) M M' → M.n ≤ M'.n → K v' M') : OP2 (appV k e v w M) K := by
 obtain ⟨v', M', e1, hu', hN, hn, hf, hc⟩ := Nw.appV2 hu h0b hbm h hw hz
 rw [e1, ey]
 refine hK v' M' hu' ?_ hc hn
 unfold NK
 rw [List.length_append, List.flatMap_append]
 exact hN
end
end Go.Ab
