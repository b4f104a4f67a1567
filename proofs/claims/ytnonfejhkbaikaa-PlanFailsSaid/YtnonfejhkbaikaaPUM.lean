/- ... -/
import Derived.Test.YtnonfejhkbaikaaPUQ
import Derived.Test.YtnonfejhkbaikaaPQ6c
import Derived.Test.YtnonfejhkbaikaaPQ4
import Derived.Test.YtnonfejhkbaikaaPN0
namespace Go.G
open Go.Ab
set_option linter.unusedVariables false
set_option linter.unusedSimpArgs false
set_option maxRecDepth 100000
abbrev Tw := List UInt8 × Bool
def tww (w : Wd) : Tw := (w.1, w.2.2.2)
def spT (w : Tw) : List UInt8 := if w.2 = true then 34 :: (w.1 ++ [34]) else w.1
def cP : List Tw → List UInt8
 | [] => []
 | w :: r => if r = [] then spT w else spT w ++ 32 :: cP r
def dC (w : Tw) : Bool := decide (w.1.length ≤ 64) && (if w.2 = true then w.1.all fun c => fH c && inQ c else match w.1 with
 | [] => false
 | c :: t => if eF c = true then t.isEmpty else c != 35 && (c :: t).all aE)
theorem kh {p : UInt8 → Bool} {r : List UInt8} (hr : r.head?.all (fun c => !p c) = true) : ∀ s : List UInt8, (∀ c ∈ s, p c = true) → (s ++ r).takeWhile p = s
 | [], _ => by
  cases r with
  | nil => rfl
  | cons c r => simp at hr; rw [List.nil_append, List.takeWhile_cons, if_neg (by rw [hr]; decide)]
 | c :: s, h => by rw [List.cons_append, List.takeWhile_cons, if_pos (h c (by simp)), kh hr s fun d hd => h d (by simp [hd])]
theorem qt {p : UInt8 → Bool} {r : List UInt8} (hr : r.head?.all (fun c => !p c) = true) : ∀ s : List UInt8, (∀ c ∈ s, p c = true) → (s ++ r).dropWhile p = r
 | [], _ => by
  cases r with
  | nil => rfl
  | cons c r => simp at hr; rw [List.nil_append, List.dropWhile_cons, if_neg (by rw [hr]; decide)]
 | c :: s, h => by rw [List.cons_append, List.dropWhile_cons, if_pos (h c (by simp)), qt hr s fun d hd => h d (by simp [hd])]
theorem yk {c : UInt8} (h : aE c = true) : c ≠ 34 ∧ eF c = false ∧ iE c = false ∧ c ≠ 10 := by
 unfold aE at h
 simp only [Bool.and_eq_true, decide_eq_true_eq, bne_iff_ne, Bool.not_eq_true'] at h
 obtain ⟨h1, h2, h3, h4⟩ := h
 refine ⟨h3, h4, ?_, ?_⟩
 ·unfold iE
  have e1 : (c == 32) = false := by
   rw [beq_eq_false_iff_ne]; rintro rfl; exact absurd h1 (by decide)
  have e2 : (c == 9) = false := by
   rw [beq_eq_false_iff_ne]; rintro rfl; exact absurd h1 (by decide)
  rw [e1, e2]; rfl
 ·rintro rfl; exact absurd h1 (by decide)
theorem AX {c : UInt8} (h : eF c = true) : c ≠ 34 ∧ iE c = false ∧ c ≠ 35 ∧ c ≠ 10 := by
 unfold eF at h
 simp only [Bool.or_eq_true, beq_iff_eq] at h
 rcases h with (((rfl | rfl) | rfl) | rfl) | rfl <;> decide
theorem uT {w : Tw} (h : dC w = true) (line col : Nat) {r : List UInt8} (hr : r = [] ∨ ∃ r', r = 32 :: r') :
    ∃ c t, spT w ++ r = c :: t ∧ iE c = false ∧ c ≠ 35 ∧ aR line col c t = .inr ((w.1, line, col, w.2), (spT w).length) := by
 obtain ⟨s, q⟩ := w
 unfold dC at h
 rw [Bool.and_eq_true, decide_eq_true_eq] at h
 obtain ⟨hl, h⟩ := h
 have hrl : r.head?.all (fun c => !aE c) = true := by rcases hr with rfl | ⟨r', rfl⟩ <;> rfl
 cases q with
 | true =>
  simp only [if_true, List.all_eq_true, Bool.and_eq_true] at h
  refine ⟨34, s ++ 34 :: r, by simp [spT], by decide, by decide, ?_⟩
  have e1 := kh (p := inQ) (r := 34 :: r) (by rfl) s fun c hc => (h c hc).2
  have e2 := qt (p := inQ) (r := 34 :: r) (by rfl) s fun c hc => (h c hc).2
  unfold aR
  rw [if_pos rfl, e2, if_pos (by rfl), e1, if_neg (by simpa using hl)]
  have e3 : dg s = none := by
   unfold dg
   rw [List.findIdx?_eq_none_iff]
   intro d hd; rw [(h d hd).1]; rfl
  rw [e3]
  simp [spT]
 | false =>
  simp only [if_neg (show ¬ (false = true) by decide)] at h
  cases s with
  | nil => cases h
  | cons c t =>
   simp only at h
   split at h
   ·rename_i hs
    have : t = [] := by simpa using h
    subst this
    obtain ⟨n1, n2, n3, _⟩ := AX hs
    refine ⟨c, r, rfl, n2, n3, ?_⟩
    unfold aR
    rw [if_neg n1, if_pos hs]; rfl
   ·rename_i hs
    rw [Bool.and_eq_true, List.all_eq_true] at h
    obtain ⟨h35, hall⟩ := h
    obtain ⟨n1, n2, n3, _⟩ := yk (hall c (by simp))
    refine ⟨c, t ++ r, rfl, n3, by simpa using h35, ?_⟩
    have e1 : (c :: (t ++ r)).takeWhile aE = c :: t := kh hrl (c :: t) hall
    unfold aR
    rw [if_neg n1, if_neg (by rw [n2]; decide), if_neg (by rw [hall c (by simp)]; decide), e1, if_neg (by simpa using hl)]
    rfl
theorem H6 {w : Tw} (h : dC w = true) : 1 ≤ (spT w).length := by
 obtain ⟨c, t, e, _⟩ := uT h 0 0 (r := []) (.inl rfl)
 rw [List.append_nil] at e; rw [e]; simp
theorem wU (line : Nat) : ∀ (ws : List Tw) (k col : Nat) (row : List Wd), (cP ws).length < k → (∀ w ∈ ws, dC w = true) → ∃ ws' : List Wd, cW k line col row (cP ws) = .inr (row ++ ws') ∧ ws'.map tww = ws
 | [], k, col, row, hk, _ => by
  obtain ⟨k, rfl⟩ : ∃ k', k = k' + 1 := ⟨k - 1, by simp [cP] at hk; omega⟩
  exact ⟨[], by simp [cP, cW], rfl⟩
 | w :: r, k, col, row, hk, hg => by
  obtain ⟨k, rfl⟩ : ∃ k', k = k' + 1 := ⟨k - 1, by omega⟩
  have hw := hg w (by simp)
  have hp := H6 hw
  unfold cP at hk ⊢
  split
  ·rename_i e
   subst e
   rw [if_pos rfl] at hk
   obtain ⟨c, t, e, h1, h2, h3⟩ := uT hw line col (r := []) (.inl rfl)
   rw [List.append_nil] at e
   rw [e] at h3 hk ⊢
   rw [cW, if_neg (by rw [h1]; decide), if_neg h2, h3]
   simp only
   obtain ⟨k, rfl⟩ : ∃ k', k = k' + 1 := ⟨k - 1, by simp at hk; omega⟩
   refine ⟨[(w.1, line, col, w.2)], ?_, rfl⟩
   rw [List.drop_length, cW]
  ·rename_i e
   rw [if_neg e] at hk
   obtain ⟨c, t, e1, h1, h2, h3⟩ := uT hw line col (r := 32 :: cP r) (.inr ⟨_, rfl⟩)
   have hd : (c :: t).drop (spT w).length = 32 :: cP r := by rw [← e1, List.drop_left]
   rw [e1, cW, if_neg (by rw [h1]; decide), if_neg h2, h3]
   simp only
   rw [hd]
   rw [List.length_append, List.length_cons] at hk
   obtain ⟨k, rfl⟩ : ∃ k', k = k' + 1 := ⟨k - 1, by omega⟩
   rw [cW, if_pos (by decide)]
   obtain ⟨ws', q1, q2⟩ := wU line r k (col + (spT w).length + 1) (row ++ [(w.1, line, col, w.2)]) (by omega) fun x hx => hg x (by simp [hx])
   refine ⟨(w.1, line, col, w.2) :: ws', by rw [q1]; simp, ?_⟩
   rw [List.map_cons, q2]; rfl
theorem FC {w : Tw} (h : dC w = true) : ∀ c ∈ spT w, c ≠ 10 := by
 obtain ⟨s, q⟩ := w
 unfold dC at h
 rw [Bool.and_eq_true, decide_eq_true_eq] at h
 obtain ⟨hl, h⟩ := h
 cases q with
 | true =>
  simp only [if_true, List.all_eq_true, Bool.and_eq_true] at h
  intro c hc
  have hc : c = 34 ∨ c ∈ s ∨ c = 34 := by simpa [spT] using hc
  rcases hc with rfl | hc | rfl
  ·decide
  ·have := (h c hc).2
   unfold inQ at this
   simp at this; exact this.2
  ·decide
 | false =>
  simp only [if_neg (show ¬ (false = true) by decide)] at h
  cases s with
  | nil => cases h
  | cons c t =>
   simp only at h
   intro d hd
   have hd : d ∈ c :: t := by simpa [spT] using hd
   split at h
   ·rename_i hs
    have : t = [] := by simpa using h
    subst this
    have : d = c := by simpa using hd
    subst this
    exact (AX hs).2.2.2
   ·rw [Bool.and_eq_true, List.all_eq_true] at h
    exact (yk (h.2 d hd)).2.2.2
theorem AF : ∀ (ws : List Tw), (∀ w ∈ ws, dC w = true) → ∀ c ∈ cP ws, c ≠ 10
 | [], _, c, hc => by simp [cP] at hc
 | w :: r, hg, c, hc => by
  unfold cP at hc
  split at hc
  ·exact FC (hg w (by simp)) c hc
  ·rcases List.mem_append.1 hc with hc | hc
   ·exact FC (hg w (by simp)) c hc
   ·rcases List.mem_cons.1 hc with rfl | hc
    ·decide
    ·exact AF r (fun x hx => hg x (by simp [hx])) c hc
def bq (rows : List (List Tw)) : List UInt8 := rows.flatMap fun ws => cP ws ++ [10]
theorem yq : ∀ (rows : List (List Tw)) (line : Nat), (∀ ws ∈ rows, ws ≠ [] ∧ ∀ w ∈ ws, dC w = true) → ∃ rs : List (List Wd), nu line (eG (bq rows)) = .inr rs ∧ rs.map (List.map tww) = rows
 | [], line, _ => ⟨[], by simp [bq, eG, nu, cW, gH], rfl⟩
 | ws :: rows, line, h => by
  obtain ⟨hne, hg⟩ := h ws (by simp)
  have e : bq (ws :: rows) = cP ws ++ 10 :: bq rows := by simp [bq]
  rw [e, nU _ _ (AF ws hg), nu]
  obtain ⟨ws', q1, q2⟩ := wU line ws ((cP ws).length + 1) 1 [] (by omega) hg
  rw [q1]
  simp only [List.nil_append]
  obtain ⟨rs, q3, q4⟩ := yq rows (line + 1) fun x hx => h x (by simp [hx])
  rw [q3]
  have hne' : ws' ≠ [] := by rintro rfl; exact hne q2.symm
  refine ⟨ws' :: rs, ?_, by rw [List.map_cons, q2, q4]⟩
  simp [gH, hne']
theorem D2 {rows : List (List Tw)} (h : ∀ ws ∈ rows, ws ≠ [] ∧ ∀ w ∈ ws, dC w = true) : ∃ rs : List (List Wd), mA (bq rows) = .inr rs ∧ rs.map (List.map tww) = rows := by
 rw [BT]; exact yq rows 1 h
def di (ws : List Tw) : List UInt8 := ws.flatMap fun w => 32 :: spT w
theorem pT (a b : List Tw) : di (a ++ b) = di a ++ di b := by simp [di]
theorem jT (w : Tw) (r : List Tw) : di (w :: r) = 32 :: (spT w ++ di r) := by simp [di]
theorem kH (w : Tw) : ∀ r : List Tw, cP (w :: r) = spT w ++ di r
 | [] => by simp [cP, di]
 | y :: r => by rw [cP, if_neg (by simp), kH y r, jT]
theorem FD {ws : List Tw} (h : ws ≠ []) : di ws = 32 :: cP ws := by
 cases ws with
 | nil => exact absurd rfl h
 | cons w r => rw [kH, jT]
structure RuT where
 outs : List (List UInt8)
 ins : List (List UInt8)
 order : List (List UInt8)
 acts : List Nat
 ph : Bool
abbrev wT (s : List UInt8) : Tw := (s, false)
abbrev iK : List UInt8 := [114, 117, 108, 101]
abbrev mv : List UInt8 := [112, 104, 111, 110, 121]
abbrev xn : List UInt8 := [97, 108, 108]
def gz : List (List Tw) := [[wT xn], [wT xn, wT [59], wT [117, 112, 112, 101, 114]], [wT [105, 110], wT [48]], [wT xn, wT [59], wT [114, 101, 118]], [wT [116, 101, 120, 116], ([107], true)],
 [wT xn, wT [59], wT [116, 119, 105, 99, 101], wT [59], wT [116, 97, 107, 101], wT [57]], [wT xn, wT [59], wT [106, 111, 105, 110], ([46], true), wT [59], wT [116, 97, 107, 101], wT [50, 48]], [wT xn, wT [59], wT [102, 97, 105, 108]]]
def Jf : List (List Dw) := [[(3, 0, [])], [(3, 0, []), (4, 0, [])], [(2, 0, [])], [(3, 0, []), (6, 0, [])], [(1, 0, [107])], [(3, 0, []), (9, 0, []), (7, 9, [])], [(3, 0, []), (10, 0, [46]), (7, 20, [])], [(3, 0, []), (11, 0, [])]]
abbrev aWt (j : Nat) : List Tw := gz.getD j []
abbrev aDw (j : Nat) : List Dw := Jf.getD j []
def bz : List Nat → List Tw
 | [] => []
 | a :: r => aWt a ++ (if r = [] then [] else wT [44] :: bz r)
def a7 (r : RuT) : List Tw :=
 if r.ph = true then wT mv :: (r.outs.map wT ++ wT [58] :: r.ins.map wT)
 else wT iK :: (r.outs.map wT ++ wT [58] :: (r.ins.map wT ++ ((if r.order = [] then [] else wT [124] :: r.order.map wT) ++ wT [61] :: bz r.acts)))
def yB : List UInt8 := [109, 97, 110, 105, 102, 101, 115, 116]
def FH : List UInt8 := [116, 114, 97, 99, 101]
def okN (s : List UInt8) : Bool := okF s && (decide (s ≠ yB) && decide (s ≠ FH))
theorem Gp {s : List UInt8} (h : okF s = true) : dC (wT s) = true := by
 unfold okF at h
 simp only [Bool.and_eq_true, decide_eq_true_eq, List.all_eq_true] at h
 obtain ⟨h1, h2, h3⟩ := h
 unfold dC
 rw [Bool.and_eq_true, decide_eq_true_eq]
 refine ⟨by show s.length ≤ 64; omega, ?_⟩
 have hl : ∀ c : UInt8, gL c = true → aE c = true ∧ eF c = false ∧ c ≠ 35 := by
  have : ∀ n : Nat, n < 256 → (gL (UInt8.ofNat n) = true → aE (UInt8.ofNat n) = true ∧ eF (UInt8.ofNat n) = false ∧ UInt8.ofNat n ≠ 35) := by decide +kernel
  intro c
  have := this c.toNat c.toNat_lt
  rwa [UInt8.ofNat_toNat] at this
 cases s with
 | nil => simp at h2
 | cons c t =>
  have hc := hl c (h1 c (by simp))
  simp only [if_neg (show ¬ (false = true) by decide)]
  rw [if_neg (by rw [hc.2.1]; decide), Bool.and_eq_true, List.all_eq_true]
  exact ⟨by simpa using hc.2.2, fun d hd => (hl d (h1 d hd)).1⟩
theorem pj : ∀ ws ∈ gz, ws ≠ [] ∧ ∀ w ∈ ws, dC w = true := by
 have h : gz.all (fun ws => !ws.isEmpty && ws.all dC) = true := by kernel_rfl
 intro ws hws
 have := List.all_eq_true.1 h ws hws
 rw [Bool.and_eq_true, List.all_eq_true] at this
 exact ⟨by simpa using this.1, this.2⟩
theorem oF {j : Nat} (h : j < 8) : aWt j ∈ gz := by
 have hl : j < gz.length := h
 show gz.getD j [] ∈ gz
 rw [List.getD_eq_getElem?_getD, List.getElem?_eq_getElem hl]
 exact List.getElem_mem hl
theorem wp : ∀ l : List Nat, (∀ j ∈ l, j < 8) → ∀ w ∈ bz l, dC w = true
 | [], _, w, h => by cases h
 | a :: r, hl, w, h => by
  unfold bz at h
  rcases List.mem_append.1 h with h | h
  ·exact (pj _ (oF (hl a (by simp)))).2 w h
  ·split at h
   ·cases h
   ·rcases List.mem_cons.1 h with rfl | h
    ·decide
    ·exact wp r (fun j hj => hl j (by simp [hj])) w h
structure kZ (seen : List (List UInt8)) (r : RuT) : Prop where
 ne : r.outs ≠ []
 most : r.outs.length ≤ if r.ph = true then 1 else 4
 nd : r.outs.Nodup
 ok : ∀ o ∈ r.outs, okN o = true ∧ o ∉ seen
 insl : r.ins.length ≤ 8
 ordl : r.order.length ≤ 8
 ins : ∀ x ∈ r.ins, okN x = true
 ord : ∀ x ∈ r.order, okN x = true
 phs : r.ph = true → r.order = [] ∧ r.acts = []
 acts : r.ph = false → r.acts.length = r.outs.length
 actl : ∀ j ∈ r.acts, j < 8
def OkRs : List (List UInt8) → List RuT → Prop
 | _, [] => True
 | seen, r :: rs => kZ seen r ∧ OkRs (seen ++ r.outs) rs
theorem y8 {s : List UInt8} (h : okN s = true) : okF s = true := by
 unfold okN at h; rw [Bool.and_eq_true] at h; exact h.1
theorem yp {seen : List (List UInt8)} {r : RuT} (h : kZ seen r) : a7 r ≠ [] ∧ ∀ w ∈ a7 r, dC w = true := by
 have hn : ∀ l : List (List UInt8), (∀ x ∈ l, okN x = true) → ∀ w ∈ l.map wT, dC w = true := by
  intro l hl w hw
  obtain ⟨x, hx, rfl⟩ := List.mem_map.1 hw
  exact Gp (y8 (hl x hx))
 have ho := hn r.outs fun o ho => (h.ok o ho).1
 have hi := hn r.ins h.ins
 have hr := hn r.order h.ord
 have ha := wp r.acts h.actl
 unfold a7
 split
 ·refine ⟨by simp, fun w hw => ?_⟩
  rcases List.mem_cons.1 hw with rfl | hw
  ·decide
  rcases List.mem_append.1 hw with hw | hw
  ·exact ho w hw
  rcases List.mem_cons.1 hw with rfl | hw
  ·decide
  ·exact hi w hw
 ·refine ⟨by simp, fun w hw => ?_⟩
  rcases List.mem_cons.1 hw with rfl | hw
  ·decide
  rcases List.mem_append.1 hw with hw | hw
  ·exact ho w hw
  rcases List.mem_cons.1 hw with rfl | hw
  ·decide
  rcases List.mem_append.1 hw with hw | hw
  ·exact hi w hw
  rcases List.mem_append.1 hw with hw | hw
  ·split at hw
   ·cases hw
   ·rcases List.mem_cons.1 hw with rfl | hw
    ·decide
    ·exact hr w hw
  rcases List.mem_cons.1 hw with rfl | hw
  ·decide
  ·exact ha w hw
theorem OkRs.all : ∀ {rs : List RuT} {seen : List (List UInt8)}, OkRs seen rs → ∀ r ∈ rs, ∃ s, kZ s r
 | [], _, _, r, hr => by cases hr
 | x :: rs, seen, h, r, hr => by
  rcases List.mem_cons.1 hr with rfl | hr
  ·exact ⟨_, h.1⟩
  ·exact h.2.all r hr
theorem BX {rs : List RuT} {seen : List (List UInt8)} (h : OkRs seen rs) : ∃ ls : List (List Wd), mA (bq (rs.map a7)) = .inr ls ∧ ls.map (List.map tww) = rs.map a7 :=
 D2 fun ws hws => by
  obtain ⟨r, hr, rfl⟩ := List.mem_map.1 hws
  obtain ⟨s, hs⟩ := h.all r hr
  exact yp hs
end Go.G

namespace Go.G
open Go.Ab
set_option linter.unusedVariables false
set_option linter.unusedSimpArgs false
set_option maxRecDepth 100000
def nmS : List (List UInt8) := [[97], [98], [99], [100], [101], [102], [103], [104]]
def srS : List (List UInt8) := [[115], [116], [117]]
def acS : List (List UInt8) := [[97, 108, 108], [97, 108, 108, 32, 59, 32, 117, 112, 112, 101, 114], [105, 110, 32, 48], [97, 108, 108, 32, 59, 32, 114, 101, 118], [116, 101, 120, 116, 32, 34, 107, 34],
 [97, 108, 108, 32, 59, 32, 116, 119, 105, 99, 101, 32, 59, 32, 116, 97, 107, 101, 32, 57], [97, 108, 108, 32, 59, 32, 106, 111, 105, 110, 32, 34, 46, 34, 32, 59, 32, 116, 97, 107, 101, 32, 50, 48], [97, 108, 108, 32, 59, 32, 102, 97, 105, 108]]
abbrev nmG (i : Nat) : List UInt8 := nmS.getD i []
abbrev srG (i : Nat) : List UInt8 := srS.getD i []
theorem FW : acS = gz.map cP := by kernel_rfl
def iN (n : Nat) (k : Int) : Bool := decide (aW k 7 = 7) && decide (n + 1 < 7)
def am (n : Nat) (k : Int) : List (List UInt8) := nmG n :: (if iN n k = true then [nmG (n + 1)] else [])
def inM (n : Nat) (k : Int) (q : Nat) : List UInt8 := if aW (bK k (5 + 4 * q)) 15 < 8 ∧ 0 < n then nmG (aW (bK k (5 + 4 * q)) 15 % n) else srG (aW (bK k (5 + 4 * q)) 15 % 3)
def eZ (n : Nat) (k : Int) : List (List UInt8) := (List.range (aW (bK k 3) 3)).map (inM n k)
def sO (n : Nat) (k : Int) : List (List UInt8) := if aW (bK k 17) 3 = 0 ∧ 0 < n then [nmG (aW (bK k 19) 7 % n)] else []
def phM (n : Nat) (k : Int) : List RuT := if aW (bK k 22) 7 = 0 then [⟨[112 :: nmG (n + (am n k).length - 1)], eZ n k, [], [], true⟩] else []
def acM (k : Int) (q : Nat) : Nat := if 0 < aW (bK k 28) 3 ∧ aW (bK k (24 + 2 * q)) 7 % 8 = 7 then 0 else aW (bK k (24 + 2 * q)) 7 % 8
def ruM (n : Nat) (k : Int) : RuT := ⟨am n k, eZ n k, sO n k, (List.range (am n k).length).map (acM k), false⟩
def mn : Nat → List Int → List RuT
 | _, [] => []
 | n, k :: l => if n < 7 then phM n k ++ ruM n k :: mn (n + (am n k).length) l else []
def pH (l : List Int) : List RuT := mn 0 (l.take 7)
theorem yn (n : Nat) (k : Int) : (am n k).length = if iN n k = true then 2 else 1 := by unfold am; split <;> rfl
theorem jP : ∀ i, i < 8 → okN (nmG i) = true ∧ okN (112 :: nmG i) = true ∧ (nmG i).length = 1 ∧ nmG i ∉ srS ∧ 112 :: nmG i ∉ srS := by decide +kernel
theorem xC : ∀ i, i < 8 → ∀ j, j < 8 → nmG i = nmG j → i = j := by decide +kernel
theorem FE : ∀ i, i < 3 → okN (srG i) = true ∧ srG i ∈ srS := by decide +kernel
structure xa (n : Nat) (seen : List (List UInt8)) : Prop where
 of : ∀ x ∈ seen, ∃ i, i < n ∧ (x = nmG i ∨ x = 112 :: nmG i)
 all : ∀ i, i < n → nmG i ∈ seen
theorem IJ {n : Nat} (hn : n ≤ 7) {seen : List (List UInt8)} (h : xa n seen) (k : Int) (q : Nat) : okN (inM n k q) = true ∧ (inM n k q ∈ seen ∨ inM n k q ∈ srS) := by
 unfold inM
 split
 ·rename_i hc
  have hm := Nat.mod_lt (aW (bK k (5 + 4 * q)) 15) hc.2
  exact ⟨(jP _ (by omega)).1, .inl (h.all _ hm)⟩
 ·have hm := Nat.mod_lt (aW (bK k (5 + 4 * q)) 15) (show 0 < 3 by omega)
  exact ⟨(FE _ hm).1, .inr (FE _ hm).2⟩
theorem Hy {n : Nat} (hn : n ≤ 7) {seen : List (List UInt8)} (h : xa n seen) (k : Int) : (eZ n k).length ≤ 3 ∧ ∀ x ∈ eZ n k, okN x = true ∧ (x ∈ seen ∨ x ∈ srS) := by
 unfold eZ
 refine ⟨by rw [List.length_map, List.length_range]; exact sZ _ 3 (by decide), fun x hx => ?_⟩
 obtain ⟨q, _, rfl⟩ := List.mem_map.1 hx
 exact IJ hn h k q
theorem HP {n : Nat} (hn : n ≤ 7) {seen : List (List UInt8)} (h : xa n seen) (k : Int) : (sO n k).length ≤ 1 ∧ ∀ x ∈ sO n k, okN x = true ∧ (x ∈ seen ∨ x ∈ srS) := by
 unfold sO
 split
 ·rename_i hc
  have hm := Nat.mod_lt (aW (bK k 19) 7) hc.2
  refine ⟨by simp, fun x hx => ?_⟩
  rw [List.mem_singleton.1 hx]
  exact ⟨(jP _ (by omega)).1, .inl (h.all _ hm)⟩
 ·exact ⟨by simp, fun x hx => by cases hx⟩
theorem EH (k : Int) (q : Nat) : acM k q < 8 := by
 unfold acM
 split
 ·omega
 ·exact Nat.mod_lt _ (by omega)
theorem AP {i j : Nat} (hi : i < 8) (hj : j < 8) : nmG i ≠ 112 :: nmG j := fun e => by
 have h1 := (jP i hi).2.2.1
 have h2 := (jP j hj).2.2.1
 rw [e, List.length_cons, h2] at h1
 cases h1
def BackRs : List (List UInt8) → List RuT → Prop
 | _, [] => True
 | seen, r :: rs => (∀ x ∈ r.ins ++ r.order, x ∈ seen ∨ x ∈ srS) ∧ (∀ o ∈ r.outs, o ∉ srS) ∧ BackRs (seen ++ r.outs) rs
theorem xA : ∀ (l : List Int) (n : Nat) (seen : List (List UInt8)), n ≤ 7 → xa n seen → OkRs seen (mn n l) ∧ BackRs seen (mn n l) ∧ (mn n l).length ≤ 2 * l.length
 | [], n, seen, hn, hs => ⟨trivial, trivial, Nat.zero_le _⟩
 | k :: l, n, seen, hn, hs => by
  unfold mn
  split
  ·rename_i h7
   have hol := yn n k
   have htwo : iN n k = true → n + 1 < 7 := fun h => by
    unfold iN at h
    rw [Bool.and_eq_true, decide_eq_true_eq, decide_eq_true_eq] at h
    exact h.2
   have hol2 : 1 ≤ (am n k).length ∧ (am n k).length ≤ 2 ∧ n + (am n k).length ≤ 7 := by
    rw [hol]
    split
    ·rename_i h; have := htwo h; omega
    ·omega
   have hom : ∀ o ∈ am n k, ∃ i, n ≤ i ∧ i < n + (am n k).length ∧ o = nmG i := by
    intro o ho
    rw [hol]
    unfold am at ho
    rcases List.mem_cons.1 ho with rfl | ho
    ·exact ⟨n, Nat.le_refl _, by split <;> omega, rfl⟩
    ·split at ho
     ·rename_i h
      rw [if_pos h]
      exact ⟨n + 1, by omega, by omega, by simpa using ho⟩
     ·cases ho
   have hnew : ∀ i, n ≤ i → i < 8 → nmG i ∉ seen ∧ 112 :: nmG i ∉ seen := by
    intro i h1 h2
    constructor
    ·intro hm
     obtain ⟨j, hj, e | e⟩ := hs.of _ hm
     ·have := xC i h2 j (by omega) e; omega
     ·exact AP h2 (by omega) e
    ·intro hm
     obtain ⟨j, hj, e | e⟩ := hs.of _ hm
     ·exact AP (by omega) h2 e.symm
     ·injection e with _ e
      have := xC i h2 j (by omega) e; omega
   have hin := Hy hn hs k
   have hor := HP hn hs k
   have hnd : (am n k).Nodup := by
    unfold am
    split
    ·rename_i h
     have := htwo h
     simp only [List.nodup_cons, List.not_mem_nil, not_false_eq_true, List.nodup_nil, and_true, List.mem_singleton]
     intro e
     have := xC n (by omega) (n + 1) (by omega) e
     omega
    ·simp
   -- the GG itself, behind whatever else was seen
   have hru : ∀ seen' : List (List UInt8), (∀ x ∈ seen', x ∈ seen ∨ ∃ i, i < 8 ∧ x = 112 :: nmG i) → kZ seen' (ruM n k) := by
    intro seen' hseen'
    refine ⟨by simp [ruM, am], by show (am n k).length ≤ if (false : Bool) = true then 1 else 4; rw [if_neg (by decide)]; omega, hnd, ?_, ?_, ?_, fun x hx => (hin.2 x hx).1, fun x hx => (hor.2 x hx).1, (fun h => by cases h), fun _ => by simp [ruM], ?_⟩
    ·intro o ho
     obtain ⟨i, h1, h2, rfl⟩ := hom o ho
     refine ⟨(jP i (by omega)).1, fun hm => ?_⟩
     rcases hseen' _ hm with hm | ⟨j, hj, e⟩
     ·exact (hnew i h1 (by omega)).1 hm
     ·exact AP (by omega) hj e
    ·show (eZ n k).length ≤ 8; omega
    ·show (sO n k).length ≤ 8; omega
    ·intro j hj
     obtain ⟨q, _, rfl⟩ := List.mem_map.1 hj
     exact EH k q
   have hrb : ∀ seen' : List (List UInt8), (∀ x ∈ seen, x ∈ seen') → (∀ x ∈ (ruM n k).ins ++ (ruM n k).order, x ∈ seen' ∨ x ∈ srS) ∧ ∀ o ∈ (ruM n k).outs, o ∉ srS := by
    intro seen' hsub
    refine ⟨fun x hx => ?_, fun o ho => ?_⟩
    ·rcases List.mem_append.1 hx with hx | hx
     ·exact (hin.2 x hx).2.imp (hsub x) id
     ·exact (hor.2 x hx).2.imp (hsub x) id
    ·obtain ⟨i, h1, h2, rfl⟩ := hom o ho
     exact (jP i (by omega)).2.2.2.1
   have hall : ∀ i, i < n + (am n k).length → n ≤ i → nmG i ∈ am n k := by
    intro i h1 h2
    rw [hol] at h1
    unfold am
    by_cases e : i = n
    ·subst e; simp
    ·split at h1
     ·rename_i h
      rw [if_pos h]
      have : i = n + 1 := by omega
      subst this; simp
     ·omega
   unfold phM
   split
   ·-- a phony one ahead
    have hp8 : n + (am n k).length - 1 < 8 := by omega
    have hs' : xa (n + (am n k).length) (seen ++ [112 :: nmG (n + (am n k).length - 1)] ++ am n k) := by
     refine ⟨fun x hx => ?_, fun i hi => ?_⟩
     ·rcases List.mem_append.1 hx with hx | hx
      ·rcases List.mem_append.1 hx with hx | hx
       ·obtain ⟨i, hi, e⟩ := hs.of x hx
        exact ⟨i, by omega, e⟩
       ·exact ⟨n + (am n k).length - 1, by omega, .inr (List.mem_singleton.1 hx)⟩
      ·obtain ⟨i, h1, h2, e⟩ := hom x hx
       exact ⟨i, h2, .inl e⟩
     ·by_cases h : i < n
      ·exact List.mem_append_left _ (List.mem_append_left _ (hs.all i h))
      ·exact List.mem_append_right _ (hall i hi (by omega))
    obtain ⟨r1, r2, r3⟩ := xA l _ _ hol2.2.2 hs'
    have hph : kZ seen ⟨[112 :: nmG (n + (am n k).length - 1)], eZ n k, [], [], true⟩ := by
     refine ⟨by simp, by simp, by simp, ?_, ?_, by simp, fun x hx => (hin.2 x hx).1, (fun x hx => by cases hx), fun _ => ⟨rfl, rfl⟩, (fun h => by cases h), (fun j hj => by cases hj)⟩
     ·intro o ho
      have ho : o = _ := List.mem_singleton.1 ho
      subst ho
      exact ⟨(jP _ hp8).2.1, (hnew _ (by omega) hp8).2⟩
     ·show (eZ n k).length ≤ 8; omega
    refine ⟨⟨hph, hru _ fun x hx => ?_, r1⟩, ⟨fun x hx => ?_, fun o ho => ?_, (hrb _ fun x hx => List.mem_append_left _ hx).1, (hrb seen fun x hx => hx).2, r2⟩, ?_⟩
    ·rcases List.mem_append.1 hx with hx | hx
     ·exact .inl hx
     ·exact .inr ⟨_, hp8, List.mem_singleton.1 hx⟩
    ·rw [List.append_nil] at hx
     exact (hin.2 x hx).2
    ·have ho : o = _ := List.mem_singleton.1 ho
     subst ho
     exact (jP _ hp8).2.2.2.2
    ·simp only [List.length_append, List.length_cons, List.length_nil]; omega
   ·have hs' : xa (n + (am n k).length) (seen ++ am n k) := by
      refine ⟨fun x hx => ?_, fun i hi => ?_⟩
      ·rcases List.mem_append.1 hx with hx | hx
       ·obtain ⟨i, hi, e⟩ := hs.of x hx
        exact ⟨i, by omega, e⟩
       ·obtain ⟨i, h1, h2, e⟩ := hom x hx
        exact ⟨i, h2, .inl e⟩
      ·by_cases h : i < n
       ·exact List.mem_append_left _ (hs.all i h)
       ·exact List.mem_append_right _ (hall i hi (by omega))
    obtain ⟨r1, r2, r3⟩ := xA l _ _ hol2.2.2 hs'
    refine ⟨⟨hru _ fun x hx => .inl hx, r1⟩, ⟨(hrb _ fun x hx => hx).1, (hrb _ fun x hx => hx).2, r2⟩, ?_⟩
    rw [List.nil_append, List.length_cons, List.length_cons]; omega
  ·exact ⟨trivial, trivial, Nat.zero_le _⟩
theorem HD (l : List Int) : OkRs [] (pH l) ∧ BackRs [] (pH l) ∧ (pH l).length ≤ 14 := by
 obtain ⟨h1, h2, h3⟩ := xA (l.take 7) 0 [] (by omega) ⟨(fun x hx => by cases hx), fun i hi => by omega⟩
 refine ⟨h1, h2, ?_⟩
 have := List.length_take_le 7 l
 show (mn 0 (l.take 7)).length ≤ 14
 omega
end Go.G
