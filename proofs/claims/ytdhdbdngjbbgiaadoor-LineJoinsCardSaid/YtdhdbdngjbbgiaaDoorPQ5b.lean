/- Layer 5, plainly: two texts one behind the other; each word stands where it is said. -/
import Derived.Test.YtdhdbdngjbbgiaaDoorPQ5
namespace Go.G
open Go.Ab
set_option linter.unusedVariables false
set_option linter.unusedSimpArgs false

/-! ## further down -/
def shW (n : Nat) (w : Wd) : Wd := (w.1, w.2.1 + n, w.2.2.1, w.2.2.2)
def shF (n : Nat) (f : Ft) : Ft := (f.1, f.2.1 + n, f.2.2)
theorem tokF_shift (n line col : Nat) (c : UInt8) (t : List UInt8) : tokC (line + n) col c t = match tokC line col c t with
    | .inl f => .inl (shF n f)
    | .inr (w, m) => .inr (shW n w, m) := by
  unfold tokC
  split
  · split
    · split
      · rfl
      · split <;> rfl
    · rfl
  · split
    · rfl
    · split
      · rfl
      · split <;> rfl
theorem wordsN_shift (n : Nat) : ∀ (k line col : Nat) (row : List Wd) (r : List UInt8), r.length < k → wordsN k (line + n) col (row.map (shW n)) r = match wordsN k line col row r with
    | .inl f => .inl (shF n f)
    | .inr ws => .inr (ws.map (shW n)) := by
  intro k
  induction k with
  | zero => intro _ _ _ r h; omega
  | succ k ih =>
    intro line col row r h
    cases r with
    | nil => rfl
    | cons c t =>
      rw [List.length_cons] at h
      simp only [wordsN]
      split
      · exact ih _ _ _ _ (by omega)
      · split
        · rfl
        · rw [tokF_shift]
          cases hw : tokC line col c t with
          | inl f => rfl
          | inr p =>
            obtain ⟨w, m⟩ := p
            have h3 := drop_pos_lt (t := t) (c := c) (tokF_pos hw)
            simp only
            have := ih line (col + m) (row ++ [w]) ((c :: t).drop m) (by omega)
            rw [List.map_append] at this
            exact this
theorem pushR_shift (n : Nat) (row : List Wd) (out : List (List Wd)) : pushR (row.map (shW n)) (out.map (List.map (shW n))) = (pushR row out).map (List.map (shW n)) := by
  unfold pushR
  cases row with
  | nil => simp
  | cons => simp
theorem rowsF_shift (n : Nat) : ∀ (ls : List (List UInt8)) (line : Nat), rowsF (line + n) ls = match rowsF line ls with
    | .inl f => .inl (shF n f)
    | .inr rs => .inr (rs.map (List.map (shW n)))
  | [], line => rfl
  | l :: ls, line => by
    simp only [rowsF]
    have h := wordsN_shift n (l.length + 1) line 1 [] l (by omega)
    rw [List.map_nil] at h
    rw [h]
    cases wordsN (l.length + 1) line 1 [] l with
    | inl f => rfl
    | inr ws =>
      simp only
      rw [show line + n + 1 = line + 1 + n by omega, rowsF_shift n ls (line + 1)]
      cases rowsF (line + 1) ls with
      | inl f => rfl
      | inr rs => simp only [smap_inr, pushR_shift]

theorem linesF_app (b : List UInt8) : ∀ a : List UInt8, linesF (a ++ 10 :: b) = linesF a ++ linesF b
  | [] => rfl
  | c :: a => by
    rw [List.cons_append, linesF, linesF, linesF_app b a]
    split
    · rfl
    · have := linesF_ne a
      cases h : linesF a with
      | nil => exact absurd h this
      | cons l r => rfl
theorem pushR_app (row : List Wd) (x y : List (List Wd)) : pushR row (x ++ y) = pushR row x ++ y := by
  unfold pushR; split <;> simp
theorem rowsF_app : ∀ (A B : List (List UInt8)) (line : Nat), rowsF line (A ++ B) = match rowsF line A with
    | .inl f => .inl f
    | .inr x => smap (x ++ ·) (rowsF (line + A.length) B)
  | [], B, line => by
    rw [List.nil_append, rowsF]
    show _ = smap (fun y => [] ++ y) (rowsF (line + 0) B)
    rw [Nat.add_zero]
    cases rowsF line B <;> simp
  | l :: A, B, line => by
    simp only [List.cons_append, rowsF]
    cases wordsN (l.length + 1) line 1 [] l with
    | inl f => rfl
    | inr ws =>
      simp only
      rw [rowsF_app A B (line + 1)]
      cases rowsF (line + 1) A with
      | inl f => rfl
      | inr x =>
        simp only [smap_inr, List.length_cons]
        rw [show line + 1 + A.length = line + (A.length + 1) by omega]
        cases rowsF (line + (A.length + 1)) B with
        | inl f => rfl
        | inr y => simp only [smap_inr, pushR_app]
def nls (b : List UInt8) : Nat := b.countP fun c => c == 10
theorem linesF_length : ∀ b : List UInt8, (linesF b).length = nls b + 1
  | [] => rfl
  | c :: b => by
    rw [linesF]
    split
    · rename_i h; rw [List.length_cons, linesF_length b]; simp [nls, h]
    · rename_i h
      have e := linesF_length b
      have : nls (c :: b) = nls b := by simp [nls, h]
      rw [this]
      split
      · rename_i h2; rw [h2] at e; simp at e
      · rename_i l r h2; rw [h2] at e; simpa using e
theorem rowsF_empty (line : Nat) : rowsF line [[]] = .inr [] := rfl
/-- A text of lines with another one behind it. -/
theorem split_joins (raw b : List UInt8) : splitF ((raw ++ [10]) ++ b) = match splitF (raw ++ [10]) with
    | .inl f => .inl f
    | .inr x => match splitF b with
      | .inl f => .inl (shF (nls (raw ++ [10])) f)
      | .inr y => .inr (x ++ y.map (List.map (shW (nls (raw ++ [10]))))) := by
  have hn : nls (raw ++ [10]) = nls raw + 1 := by simp [nls]
  rw [splitF_rows, splitF_rows, splitF_rows, hn]
  rw [List.append_assoc, show [10] ++ b = 10 :: b from rfl, linesF_app, linesF_app]
  rw [rowsF_app, rowsF_app, linesF_length]
  rw [show linesF [] = [[]] from rfl]
  cases rowsF 1 (linesF raw) with
  | inl f => rfl
  | inr x =>
    simp only [rowsF_empty, smap_inr, List.append_nil]
    rw [rowsF_shift (nls raw + 1) (linesF b) 1]
    cases rowsF 1 (linesF b) with
    | inl f => rfl
    | inr y => rfl

/-- A fault has a kind. -/
def FtOk (f : Ft) : Prop := f.1 = 1 ∨ f.1 = 2 ∨ f.1 = 3
theorem tokF_ft {line col : Nat} {c : UInt8} {t : List UInt8} {f : Ft} (h : tokC line col c t = .inl f) : FtOk f := by
  unfold tokC at h
  split at h
  · split at h
    · split at h
      · injection h with h; subst h; exact .inr (.inr rfl)
      · split at h
        · injection h with h; subst h; exact .inl rfl
        · cases h
    · injection h with h; subst h; exact .inr (.inl rfl)
  · split at h
    · cases h
    · split at h
      · injection h with h; subst h; exact .inl rfl
      · split at h
        · injection h with h; subst h; exact .inr (.inr rfl)
        · cases h
theorem wordsN_ft : ∀ (k line col : Nat) (row : List Wd) (r : List UInt8) (f : Ft), r.length < k → wordsN k line col row r = .inl f → FtOk f := by
  intro k
  induction k with
  | zero => intro _ _ _ r f h; omega
  | succ k ih =>
    intro line col row r f h he
    cases r with
    | nil => cases he
    | cons c t =>
      rw [List.length_cons] at h
      simp only [wordsN] at he
      split at he
      · exact ih _ _ _ _ _ (by omega) he
      · split at he
        · cases he
        · cases hw : tokC line col c t with
          | inl f' => rw [hw] at he; injection he with he; subst he; exact tokF_ft hw
          | inr p =>
            obtain ⟨w, m⟩ := p
            rw [hw] at he
            have h3 := drop_pos_lt (t := t) (c := c) (tokF_pos hw)
            exact ih _ _ _ _ _ (by omega) he
theorem rowsF_ft : ∀ (ls : List (List UInt8)) (line : Nat) (f : Ft), rowsF line ls = .inl f → FtOk f
  | [], _, f, h => by cases h
  | l :: ls, line, f, h => by
    simp only [rowsF] at h
    cases hw : wordsN (l.length + 1) line 1 [] l with
    | inl f' => rw [hw] at h; injection h with h; subst h; exact wordsN_ft _ _ _ _ _ _ (by omega) hw
    | inr ws =>
      rw [hw] at h
      simp only at h
      cases hr : rowsF (line + 1) ls with
      | inl f' => rw [hr] at h; injection h with h; subst h; exact rowsF_ft ls _ _ hr
      | inr rs => rw [hr] at h; cases h
theorem splitF_ft {b : List UInt8} {f : Ft} (h : splitF b = .inl f) : FtOk f := by
  rw [splitF_rows] at h; exact rowsF_ft _ _ _ h

/-! ## places -/
def spell (w : Wd) : List UInt8 := if w.2.2.2 then 34 :: (w.1 ++ [34]) else w.1
theorem tokF_spell {line col : Nat} {c : UInt8} {t : List UInt8} {w : Wd} {n : Nat} (h : tokC line col c t = .inr (w, n)) :
    w.2.1 = line ∧ w.2.2.1 = col ∧ (spell w).length = n ∧ spell w = (c :: t).take n := by
  unfold tokC at h
  split at h
  · rename_i hc
    split at h
    · rename_i hd
      split at h
      · cases h
      · split at h
        · cases h
        · injection h with h; injection h with h1 h2
          subst h1; subst h2
          refine ⟨rfl, rfl, by simp [spell], ?_⟩
          have e := List.takeWhile_append_dropWhile (p := inQ) (l := t)
          cases hq : t.dropWhile inQ with
          | nil => rw [hq] at hd; simp at hd
          | cons a q =>
            rw [hq] at hd e
            obtain rfl : a = 34 := by simpa using hd
            generalize t.takeWhile inQ = x at *
            subst e; subst hc
            simp only [spell, if_true, List.length_cons, List.take_succ_cons]
            rw [show x.length + 1 = (x ++ [34]).length by simp, show x ++ 34 :: q = (x ++ [34]) ++ q by simp, List.take_left]
    · cases h
  · split at h
    · injection h with h; injection h with h1 h2; subst h1; subst h2; exact ⟨rfl, rfl, rfl, rfl⟩
    · split at h
      · cases h
      · split at h
        · cases h
        · injection h with h; injection h with h1 h2; subst h1; subst h2
          refine ⟨rfl, rfl, rfl, ?_⟩
          show (c :: t).takeWhile looseB = _
          have := List.takeWhile_prefix (l := c :: t) looseB
          exact List.prefix_iff_eq_take.1 this

/-- Where each line begins behind a place. -/
def fromsN : Nat → List UInt8 → List Nat
  | _, [] => []
  | i, c :: t => if c = 10 then (i + 1) :: fromsN (i + 1) t else fromsN (i + 1) t
def fromsF (b : List UInt8) : List Nat := 0 :: fromsN 0 b
theorem fromsN_line (r : List UInt8) : ∀ (s : List UInt8) (i : Nat), (∀ c ∈ s, c ≠ 10) → fromsN i (s ++ 10 :: r) = (i + s.length + 1) :: fromsN (i + s.length + 1) r
  | [], i, _ => by rw [List.nil_append, fromsN, if_pos rfl]; rfl
  | c :: s, i, h => by
    rw [List.cons_append, fromsN, if_neg (h c (by simp)), fromsN_line r s (i + 1) fun d hd => h d (by simp [hd]), List.length_cons]
    rw [show i + 1 + s.length + 1 = i + (s.length + 1) + 1 by omega]

/-- A word of a row that begins at a line stands behind what is told; then so much is told. -/
def plW (b : List UInt8) (fr : List Nat) (l0 : Nat) (last : Int) (w : Wd) : Option Int :=
  if w.2.1 = l0 ∧ 1 ≤ w.2.1 ∧ w.2.1 ≤ fr.length ∧ 1 ≤ w.2.2.1 then
    if last < ((fr.getD (w.2.1 - 1) 0 + w.2.2.1 - 1 : Nat) : Int) ∧ (fr.getD (w.2.1 - 1) 0 + w.2.2.1 - 1) + (spell w).length ≤ b.length ∧ (b.drop (fr.getD (w.2.1 - 1) 0 + w.2.2.1 - 1)).take (spell w).length = spell w then
      some (((fr.getD (w.2.1 - 1) 0 + w.2.2.1 - 1 + (spell w).length : Nat) : Int) - 1)
    else none
  else none
def plR (b : List UInt8) (fr : List Nat) (l0 : Nat) : Int → List Wd → Option Int
  | last, [] => some last
  | last, w :: ws => (plW b fr l0 last w).bind fun l => plR b fr l0 l ws
def plA (b : List UInt8) (fr : List Nat) : Int → List (List Wd) → Option Int
  | last, [] => some last
  | last, [] :: _ => none
  | last, (w :: ws) :: rs => (plR b fr w.2.1 last (w :: ws)).bind fun l => plA b fr l rs
theorem plR_app (b : List UInt8) (fr : List Nat) (l0 : Nat) : ∀ (xs ys : List Wd) (last : Int), plR b fr l0 last (xs ++ ys) = (plR b fr l0 last xs).bind fun l => plR b fr l0 l ys
  | [], ys, last => rfl
  | x :: xs, ys, last => by
    rw [List.cons_append, plR, plR]
    cases plW b fr l0 last x with
    | none => rfl
    | some l => exact plR_app b fr l0 xs ys l
/-- The words of a line stand where they are said. -/
theorem wordsN_pl {b : List UInt8} {fr : List Nat} {line p : Nat} (h1 : 1 ≤ line) (hfr : line ≤ fr.length) (hp : fr.getD (line - 1) 0 = p) : ∀ (k col : Nat) (row : List Wd) (s post : List UInt8) (ws : List Wd) (last last0 : Int),
    s.length < k → 1 ≤ col → b.drop (p + col - 1) = s ++ post → wordsN k line col row s = .inr ws → last < ((p + col - 1 : Nat) : Int) → plR b fr line last0 row = some last → (∀ w ∈ row, w.2.1 = line) →
    ∃ last', plR b fr line last0 ws = some last' ∧ last' < ((p + col - 1 + s.length : Nat) : Int) ∧ ∀ w ∈ ws, w.2.1 = line := by
  intro k
  induction k with
  | zero => intro _ _ s _ _ _ _ h; omega
  | succ k ih =>
    intro col row s post ws last last0 h hc hb hw hl hr hrow
    cases s with
    | nil =>
      injection hw with hw; subst hw
      exact ⟨last, hr, by simpa using hl, hrow⟩
    | cons c t =>
      rw [List.length_cons] at h
      have hbn : (b.drop (p + col - 1)).length = t.length + 1 + post.length := by rw [hb]; simp; omega
      have hbl : p + col - 1 + (t.length + 1) ≤ b.length := by rw [List.length_drop] at hbn; omega
      have hdrop : ∀ n, n ≤ t.length + 1 → b.drop (p + (col + n) - 1) = (c :: t).drop n ++ post := by
        intro n hn
        rw [show p + (col + n) - 1 = (p + col - 1) + n by omega, ← List.drop_drop, hb, List.drop_append, show n - (c :: t).length = 0 by rw [List.length_cons]; omega]; rfl
      simp only [wordsN] at hw
      split at hw
      · obtain ⟨last', g1, g2, g3⟩ := ih (col + 1) row t post ws last last0 (by omega) (by omega) (hdrop 1 (by omega)) hw (by omega) hr hrow
        exact ⟨last', g1, by rw [List.length_cons]; omega, g3⟩
      · split at hw
        · injection hw with hw; subst hw
          exact ⟨last, hr, by rw [List.length_cons]; omega, hrow⟩
        · cases ht : tokC line col c t with
          | inl f => rw [ht] at hw; cases hw
          | inr q =>
            obtain ⟨w, n⟩ := q
            rw [ht] at hw
            simp only at hw
            obtain ⟨e1, e2, e3, e4⟩ := tokF_spell ht
            have h2 := tokF_pos ht
            have h3 := tokF_len ht
            have h4 := drop_pos_lt (t := t) (c := c) h2
            have hpl : plW b fr line last w = some (((p + col - 1 + n : Nat) : Int) - 1) := by
              unfold plW
              rw [e1, e2, hp, e3, if_pos ⟨rfl, h1, hfr, hc⟩, if_pos]
              refine ⟨hl, by omega, ?_⟩
              rw [hb, List.take_append, show n - (c :: t).length = 0 by rw [List.length_cons]; omega, List.take_zero, List.append_nil]
              exact e4.symm
            have hr2 : plR b fr line last0 (row ++ [w]) = some (((p + col - 1 + n : Nat) : Int) - 1) := by
              rw [plR_app, hr, Option.bind_some, plR, hpl]; rfl
            obtain ⟨last', g1, g2, g3⟩ := ih (col + n) (row ++ [w]) _ post ws _ last0 (by omega) (by omega) (hdrop n (by omega)) hw (by omega) hr2 (by
              intro x hx
              rcases List.mem_append.1 hx with hx | hx
              · exact hrow x hx
              · have : x = w := by simpa using hx
                rw [this, e1])
            refine ⟨last', g1, ?_, g3⟩
            rw [List.length_drop, List.length_cons] at g2
            rw [List.length_cons]
            omega
theorem rowsF_pl {b : List UInt8} : ∀ (m : Nat) (r : List UInt8) (P : List Nat) (p : Nat) (rows : List (List Wd)) (last : Int), r.length ≤ m → b.drop p = r → p ≤ b.length → fromsF b = P ++ (p :: fromsN p r) → last < (p : Int) →
    rowsF (P.length + 1) (linesF r) = .inr rows → ∃ l, plA b (fromsF b) last rows = some l := by
  intro m
  have key : ∀ (s post : List UInt8) (P : List Nat) (p : Nat) (ws : List Wd) (last : Int) (rest : List Nat), b.drop p = s ++ post → fromsF b = P ++ (p :: rest) → last < (p : Int) → wordsN (s.length + 1) (P.length + 1) 1 [] s = .inr ws →
      ∃ last', plR b (fromsF b) (P.length + 1) last ws = some last' ∧ last' < ((p + s.length : Nat) : Int) ∧ ∀ w ∈ ws, w.2.1 = P.length + 1 := by
    intro s post P p ws last rest hb hf hl hw
    have h := wordsN_pl (b := b) (fr := fromsF b) (line := P.length + 1) (p := p) (by omega) (by rw [hf]; simp) (by rw [hf]; simp) (s.length + 1) 1 [] s post ws last last (by omega) (by omega) (by simpa using hb) hw (by omega) rfl (fun w hw => by cases hw)
    simpa using h
  induction m with
  | zero =>
    intro r P p rows last h hb hp hf hl hr
    have : r = [] := List.length_eq_zero_iff.1 (by omega)
    subst this
    injection hr with hr; subst hr
    exact ⟨last, rfl⟩
  | succ m ih =>
    intro r P p rows last h hb hp hf hl hr
    rcases line_or r with hn | ⟨s, r', rfl, hs⟩
    · rw [linesF_last r hn, rowsF] at hr
      cases hw : wordsN (r.length + 1) (P.length + 1) 1 [] r with
      | inl f => rw [hw] at hr; cases hr
      | inr ws =>
        rw [hw] at hr
        injection hr with hr; subst hr
        obtain ⟨last', g1, g2, g3⟩ := key r [] P p ws last _ (by simpa using hb) hf hl hw
        cases ws with
        | nil => exact ⟨last, rfl⟩
        | cons w ws =>
          refine ⟨last', ?_⟩
          show plA b (fromsF b) last [w :: ws] = _
          rw [plA, g3 w (by simp), g1]; rfl
    · rw [linesF_stop r' s hs, rowsF] at hr
      rw [List.length_append, List.length_cons] at h
      have hbl : p + (s.length + 1 + r'.length) ≤ b.length := by
        have := congrArg List.length hb
        rw [List.length_drop, List.length_append, List.length_cons] at this; omega
      have hb2 : b.drop (p + s.length + 1) = r' := by
        rw [show p + s.length + 1 = p + (s.length + 1) by omega, ← List.drop_drop, hb, List.drop_append, List.drop_of_length_le (by omega), show s.length + 1 - s.length = 1 by omega]; rfl
      have hf2 : fromsF b = (P ++ [p]) ++ ((p + s.length + 1) :: fromsN (p + s.length + 1) r') := by rw [hf, fromsN_line r' s p hs]; simp
      cases hw : wordsN (s.length + 1) (P.length + 1) 1 [] s with
      | inl f => rw [hw] at hr; cases hr
      | inr ws =>
        rw [hw] at hr
        simp only at hr
        obtain ⟨last', g1, g2, g3⟩ := key s (10 :: r') P p ws last _ hb hf hl hw
        cases hr2 : rowsF (P.length + 1 + 1) (linesF r') with
        | inl f => rw [hr2] at hr; cases hr
        | inr rs =>
          rw [hr2] at hr
          injection hr with hr; subst hr
          cases ws with
          | nil =>
            have g1 : some last = some last' := g1
            injection g1 with g1; subst g1
            exact ih r' (P ++ [p]) (p + s.length + 1) rs last (by omega) hb2 (by omega) hf2 (by omega) (by simpa using hr2)
          | cons w ws =>
            obtain ⟨l, hl2⟩ := ih r' (P ++ [p]) (p + s.length + 1) rs last' (by omega) hb2 (by omega) hf2 (by omega) (by simpa using hr2)
            refine ⟨l, ?_⟩
            show plA b (fromsF b) last ((w :: ws) :: rs) = _
            rw [plA, g3 w (by simp), g1, Option.bind_some, hl2]
theorem split_places {b : List UInt8} {rows : List (List Wd)} (h : splitF b = .inr rows) : ∃ l, plA b (fromsF b) (-1) rows = some l := by
  rw [splitF_rows] at h
  exact rowsF_pl b.length b [] 0 rows (-1) (Nat.le_refl _) rfl (Nat.zero_le _) rfl (by omega) h

end Go.G
