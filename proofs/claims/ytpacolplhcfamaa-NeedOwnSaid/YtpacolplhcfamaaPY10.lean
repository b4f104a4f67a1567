/- Layer 10, plainly: prints made, and read. -/
import Derived.Test.YtpacolplhcfamaaPQ6
import Derived.Test.YtpacolplhcfamaaPU3
namespace Go.G
open Go.Ab Go.Proofs Go.RowKit
set_option linter.unusedVariables false
set_option linter.unusedSimpArgs false

theorem be_snoc : ∀ (k n : Nat), be (k + 1) n = be k (n / 256) ++ [UInt8.ofNat n]
  | 0, n => by simp [be]
  | k + 1, n => by
    have e : be (k + 1 + 1) n = UInt8.ofNat (n / 256 ^ (k + 1)) :: be (k + 1) n := rfl
    have e2 : be (k + 1) (n / 256) = UInt8.ofNat (n / 256 / 256 ^ k) :: be k (n / 256) := rfl
    rw [e, e2, be_snoc k n, List.cons_append, Nat.div_div_eq_div_mul, Nat.pow_succ, Nat.mul_comm]
theorem be_numOf : ∀ (n : Nat) (l : List UInt8), l.length = n → be n (numOf l) = l
  | 0, l, h => by rw [List.length_eq_zero_iff.1 h]; rfl
  | n + 1, l, h => by
    have hne : l ≠ [] := by intro e; subst e; simp at h
    obtain ⟨y, c, rfl⟩ : ∃ y c, l = y ++ [c] := ⟨l.dropLast, l.getLast hne, (List.dropLast_concat_getLast hne).symm⟩
    have hy : y.length = n := by simpa using h
    have hc := c.toNat_lt
    rw [be_snoc, numOf_step, show (numOf y * 256 + c.toNat) / 256 = numOf y by omega, be_numOf n y hy]
    congr 2
    apply UInt8.toNat_inj.1
    rw [UInt8.toNat_ofNat']; omega
theorem rdNum_some {top : Nat} {l r : List UInt8} {n : Nat} (h : rdNum top l false = some (n, r)) : l = be 6 n ++ r ∧ n ≤ top := by
  unfold rdNum at h
  split at h
  · cases h
  · rename_i h6
    split at h
    · cases h
    · rename_i ht
      injection h with h
      injection h with h1 h2
      subst h1; subst h2
      rw [be_numOf 6 _ (by simp only [List.length_take]; simp at h6; omega), List.take_append_drop]
      exact ⟨rfl, by omega⟩
theorem rdBytes_some {top : Nat} {l x r : List UInt8} (h : rdBytes top l false = some (x, r)) : l = be 6 x.length ++ (x ++ r) ∧ x.length ≤ top := by
  unfold rdBytes at h
  obtain ⟨⟨n, q⟩, h1, h2⟩ := Option.bind_eq_some_iff.1 h
  obtain ⟨e, hn⟩ := rdNum_some h1
  simp only at h2
  split at h2
  · cases h2
  · rename_i hq
    injection h2 with h2
    injection h2 with h2 h3
    subst h2; subst h3
    have : (q.take n).length = n := by rw [List.length_take]; omega
    rw [this, List.take_append_drop]
    exact ⟨e, hn⟩
theorem rdNum_back {top n : Nat} (hn : n ≤ top) (ht : n < 256 ^ 6) (r : List UInt8) : rdNum top (be 6 n ++ r) false = some (n, r) := by
  have h1 : (be 6 n ++ r).take 6 = be 6 n := List.take_left' (be_length _ _)
  have h2 : (be 6 n ++ r).drop 6 = r := List.drop_left' (be_length _ _)
  have h3 : ¬ (be 6 n ++ r).length < 6 := by simp [be_length]
  have h4 := numOf_be 6 n ht
  simp only [rdNum, h1, h2, h4, h3, or_false, if_false, Bool.false_eq_true]
  rw [if_neg (by omega)]
theorem rdBytes_back {top : Nat} {x : List UInt8} (hx : x.length ≤ top) (ht : x.length < 256 ^ 6) (r : List UInt8) : rdBytes top (be 6 x.length ++ (x ++ r)) false = some (x, r) := by
  unfold rdBytes
  rw [rdNum_back hx ht, Option.bind_some]
  simp only
  rw [if_neg (by simp), List.take_left' rfl, List.drop_left' rfl]

/-! ## actions -/
def doO (top : Nat) (l : List UInt8) : Option (Dw × List UInt8) := (rdNum 11 l false).bind fun a => (rdNum 999 a.2 false).bind fun b => (rdBytes top b.2 false).bind fun c => some (((a.1 : Int), (b.1 : Int), c.1), c.2)
def dosO (top : Nat) : Nat → List UInt8 → List Dw → Option (List Dw)
  | 0, l, acc => if (l.isEmpty && okA acc) = true then some acc else none
  | n + 1, l, acc => (doO top l).bind fun p => dosO top n p.2 (acc ++ [p.1])
/-- The action that bytes are. -/
def actO (top : Nat) (l : List UInt8) : Option (List Dw) := (rdNum 8 l false).bind fun p => dosO top p.1 p.2 []
def insO : Nat → List UInt8 → List (List UInt8) → Option (List (List UInt8))
  | 0, l, acc => if l.isEmpty = true then some acc else none
  | n + 1, l, acc => (rdBytes 256 l false).bind fun p => insO n p.2 (acc ++ [p.1])
/-- The action and the inputs that bytes are. -/
def prntO (ta tt : Nat) (b : List UInt8) : Option (List Dw × List (List UInt8)) :=
  (rdBytes ta b false).bind fun p => (rdNum 8 p.2 false).bind fun q => (insO q.1 q.2 []).bind fun ins => (actO tt p.1).bind fun l => some (l, ins)
def valO (ta tt : Nat) (b : List UInt8) : Option (List UInt8) := (prntO ta tt b).bind fun p => runA p.1 p.2
def insB (ins : List (List UInt8)) : List UInt8 := ins.flatMap fun x => be 6 x.length ++ x
/-- What a thing is made of. -/
def printF (l : List Dw) (ins : List (List UInt8)) : List UInt8 := be 6 (actB l).length ++ actB l ++ be 6 ins.length ++ insB ins

theorem held_nat {n : Nat} (h : n ≤ 1099511627776) : held (n : Int) = n := by unfold held; omega
theorem doO_some {top : Nat} {l r : List UInt8} {d : Dw} (h : doO top l = some (d, r)) : l = doB d ++ r := by
  unfold doO at h
  obtain ⟨⟨a, l1⟩, h1, h⟩ := Option.bind_eq_some_iff.1 h
  obtain ⟨⟨b, l2⟩, h2, h⟩ := Option.bind_eq_some_iff.1 h
  obtain ⟨⟨c, l3⟩, h3, h⟩ := Option.bind_eq_some_iff.1 h
  obtain ⟨e1, n1⟩ := rdNum_some h1
  obtain ⟨e2, n2⟩ := rdNum_some h2
  obtain ⟨e3, n3⟩ := rdBytes_some h3
  injection h with h
  injection h with h h4
  simp only at e2 e3 h h4
  subst h; subst h4
  unfold doB
  simp only
  rw [held_nat (by omega), held_nat (by omega), e1, e2, e3]
  simp only [List.append_assoc]
theorem dosO_some {top : Nat} : ∀ {n : Nat} {l : List UInt8} {acc out : List Dw}, dosO top n l acc = some out → ∃ k, out = acc ++ k ∧ k.length = n ∧ l = k.flatMap doB ∧ okA out = true
  | 0, l, acc, out, h => by
    unfold dosO at h
    split at h
    · rename_i hc
      rw [Bool.and_eq_true] at hc
      injection h with h; subst h
      exact ⟨[], by simp, rfl, by simpa using hc.1, hc.2⟩
    · cases h
  | n + 1, l, acc, out, h => by
    unfold dosO at h
    obtain ⟨⟨d, r⟩, h1, h2⟩ := Option.bind_eq_some_iff.1 h
    obtain ⟨k, e1, e2, e3, e4⟩ := dosO_some h2
    have := doO_some h1
    simp only at e3
    refine ⟨d :: k, by rw [e1]; simp, by simp [e2], ?_, e4⟩
    rw [List.flatMap_cons, ← e3, this]
theorem actO_some {top : Nat} {l : List UInt8} {k : List Dw} (h : actO top l = some k) : l = actB k ∧ okA k = true := by
  unfold actO at h
  obtain ⟨⟨n, r⟩, h1, h2⟩ := Option.bind_eq_some_iff.1 h
  obtain ⟨e, _⟩ := rdNum_some h1
  obtain ⟨k', e1, e2, e3, e4⟩ := dosO_some h2
  simp only at e2 e3
  rw [List.nil_append] at e1
  subst e1
  refine ⟨?_, e4⟩
  unfold actB
  rw [e2, ← e3, e]
theorem insO_some : ∀ {n : Nat} {l : List UInt8} {acc out : List (List UInt8)}, insO n l acc = some out → ∃ k, out = acc ++ k ∧ k.length = n ∧ l = insB k ∧ ∀ x ∈ k, x.length ≤ 256
  | 0, l, acc, out, h => by
    unfold insO at h
    split at h
    · rename_i hc
      injection h with h; subst h
      exact ⟨[], by simp, rfl, by simpa [insB] using hc, by simp⟩
    · cases h
  | n + 1, l, acc, out, h => by
    unfold insO at h
    obtain ⟨⟨x, r⟩, h1, h2⟩ := Option.bind_eq_some_iff.1 h
    obtain ⟨k, e1, e2, e3, e4⟩ := insO_some h2
    obtain ⟨e5, e6⟩ := rdBytes_some h1
    simp only at e3
    refine ⟨x :: k, by rw [e1]; simp, by simp [e2], ?_, fun y hy => ?_⟩
    · unfold insB at *
      rw [List.flatMap_cons, ← e3, e5, List.append_assoc]
    · rcases List.mem_cons.1 hy with rfl | hy
      · exact e6
      · exact e4 y hy
theorem prntO_some {ta tt : Nat} {b : List UInt8} {l : List Dw} {ins : List (List UInt8)} (h : prntO ta tt b = some (l, ins)) : b = printF l ins ∧ okA l = true ∧ ins.length ≤ 8 ∧ ∀ x ∈ ins, x.length ≤ 256 := by
  unfold prntO at h
  obtain ⟨⟨p, r⟩, h1, h⟩ := Option.bind_eq_some_iff.1 h
  obtain ⟨⟨n, r2⟩, h2, h⟩ := Option.bind_eq_some_iff.1 h
  obtain ⟨i, h3, h⟩ := Option.bind_eq_some_iff.1 h
  obtain ⟨k, h4, h⟩ := Option.bind_eq_some_iff.1 h
  injection h with h
  injection h with h h5
  subst h; subst h5
  obtain ⟨e1, _⟩ := rdBytes_some h1
  obtain ⟨e2, n2⟩ := rdNum_some h2
  obtain ⟨i', e3, e4, e5, e6⟩ := insO_some h3
  obtain ⟨e7, e8⟩ := actO_some h4
  simp only at e2 e4 e5 e7
  rw [List.nil_append] at e3
  subst e3
  refine ⟨?_, e8, by omega, e6⟩
  unfold printF
  rw [← e7, e4, ← e5, e1, e2]
  simp only [List.append_assoc]

/-! ## what was made is read -/
theorem okA_all {l : List Dw} (h : okA l = true) : (∀ d ∈ l, rightA d = true) ∧ 1 ≤ l.length ∧ l.length ≤ 8 := by
  unfold okA at h
  simp only [Bool.and_eq_true, decide_eq_true_eq] at h
  refine ⟨?_, h.2.1, h.2.2⟩
  have : ∀ (l : List Dw) (i : Nat), okFrom i l = true → ∀ d ∈ l, rightA d = true := by
    intro l
    induction l with
    | nil => intro i _ d hd; cases hd
    | cons e l ih =>
      intro i hi d hd
      rw [okFrom, Bool.and_eq_true] at hi
      rcases List.mem_cons.1 hd with rfl | hd
      · have := hi.1
        unfold goodA at this
        rw [Bool.and_eq_true] at this
        exact this.1
      · exact ih (i + 1) hi.2 d hd
  exact this l 0 h.1
theorem right_bounds {d : Dw} (h : rightA d = true) : 1 ≤ d.1 ∧ d.1 ≤ 11 ∧ 0 ≤ d.2.1 ∧ d.2.1 ≤ 999 ∧ d.2.2.length ≤ 64 := by
  unfold rightA at h
  split at h
  · cases h
  · split at h
    · cases h
    · split at h
      · split at h
        · unfold fitsA at h
          simp only [Bool.and_eq_true, decide_eq_true_eq] at h
          exact ⟨by omega, by omega, by omega, by omega, h.2⟩
        · cases h
      · split at h
        · rename_i hs
          split at h
          · have h := of_decide_eq_true h
            have ht : topA d.1 ≤ 999 := by
              unfold topA
              split
              · decide
              · split
                · decide
                · split <;> decide
            refine ⟨by omega, by omega, by assumption, ?_, by rw [hs]; simp⟩
            split at h <;> omega
          · cases h
        · cases h
theorem held_back {z : Int} (h0 : 0 ≤ z) (h1 : z ≤ 1099511627776) : ((held z : Nat) : Int) = z := by unfold held; omega
theorem doO_back {top : Nat} (ht : 64 ≤ top) {d : Dw} (h : rightA d = true) (r : List UInt8) : doO top (doB d ++ r) = some (d, r) := by
  obtain ⟨h1, h2, h3, h4, h5⟩ := right_bounds h
  have e : doB d ++ r = be 6 (held d.1) ++ (be 6 (held d.2.1) ++ (be 6 d.2.2.length ++ (d.2.2 ++ r))) := by
    unfold doB; simp only [List.append_assoc]
  have k1 := held_back (z := d.1) (by omega) (by omega)
  have k2 := held_back (z := d.2.1) (by omega) (by omega)
  unfold doO
  rw [e, rdNum_back (by omega) (by omega), Option.bind_some]
  simp only
  rw [rdNum_back (by omega) (by omega), Option.bind_some]
  simp only
  rw [rdBytes_back (by omega) (by omega), Option.bind_some]
  simp only
  rw [k1, k2]
theorem dosO_back {top : Nat} (ht : 64 ≤ top) : ∀ (k acc : List Dw), (∀ d ∈ k, rightA d = true) → okA (acc ++ k) = true → dosO top k.length (k.flatMap doB) acc = some (acc ++ k)
  | [], acc, _, h => by
    rw [List.append_nil] at h ⊢
    show dosO top 0 [] acc = some acc
    rw [dosO, if_pos (by simpa using h)]
  | d :: k, acc, hk, h => by
    rw [List.length_cons, List.flatMap_cons, dosO, doO_back ht (hk d (by simp)), Option.bind_some]
    simp only
    rw [dosO_back ht k (acc ++ [d]) (fun x hx => hk x (by simp [hx])) (by simpa using h)]
    simp
theorem actO_back {top : Nat} (ht : 64 ≤ top) {l : List Dw} (h : okA l = true) : actO top (actB l) = some l := by
  obtain ⟨h1, h2, h3⟩ := okA_all h
  unfold actO actB
  rw [rdNum_back h3 (by omega), Option.bind_some]
  exact dosO_back ht l [] h1 (by simpa using h)
theorem insO_back : ∀ (k acc : List (List UInt8)), (∀ x ∈ k, x.length ≤ 256) → insO k.length (insB k) acc = some (acc ++ k)
  | [], acc, _ => by simp [insO, insB]
  | x :: k, acc, hk => by
    have hx := hk x (by simp)
    have e : insB (x :: k) = be 6 x.length ++ (x ++ insB k) := by unfold insB; rw [List.flatMap_cons, List.append_assoc]
    rw [List.length_cons, e, insO, rdBytes_back hx (by omega), Option.bind_some]
    simp only
    rw [insO_back k (acc ++ [x]) fun y hy => hk y (by simp [hy])]
    simp
theorem doB_len (d : Dw) : (doB d).length = 18 + d.2.2.length := by simp [doB, be_length]; omega
theorem fmB_len (m : Nat) : ∀ l : List Dw, (∀ d ∈ l, d.2.2.length ≤ m) → (l.flatMap doB).length ≤ l.length * (18 + m)
  | [], _ => by simp
  | d :: l, h => by
    have h1 := h d (by simp)
    have h2 := fmB_len m l fun x hx => h x (by simp [hx])
    rw [List.flatMap_cons, List.length_append, doB_len, List.length_cons, Nat.succ_mul]; omega
theorem actB_len {l : List Dw} {m : Nat} (h : ∀ d ∈ l, d.2.2.length ≤ m) : (actB l).length ≤ 6 + l.length * (18 + m) := by
  have := fmB_len m l h
  unfold actB
  rw [List.length_append, be_length]; omega
theorem actB_ok {l : List Dw} (h : okA l = true) : (actB l).length ≤ 662 := by
  obtain ⟨h1, h2, h3⟩ := okA_all h
  have := actB_len (m := 64) fun d hd => (right_bounds (h1 d hd)).2.2.2.2
  have h4 : l.length * (18 + 64) ≤ 8 * (18 + 64) := Nat.mul_le_mul_right _ h3
  omega
theorem insB_len (m : Nat) : ∀ l : List (List UInt8), (∀ x ∈ l, x.length ≤ m) → (insB l).length ≤ l.length * (6 + m)
  | [], _ => by simp [insB]
  | x :: l, h => by
    have h1 := h x (by simp)
    have h2 := insB_len m l fun y hy => h y (by simp [hy])
    unfold insB at *
    rw [List.flatMap_cons, List.length_append, List.length_append, be_length, List.length_cons, Nat.succ_mul]; omega
/-- What was made of an action and inputs is read as they are. -/
theorem prntO_back {ta tt : Nat} (hta : 662 ≤ ta) (htt : 64 ≤ tt) {l : List Dw} {ins : List (List UInt8)} (h : okA l = true) (h8 : ins.length ≤ 8) (hi : ∀ x ∈ ins, x.length ≤ 256) : prntO ta tt (printF l ins) = some (l, ins) := by
  have hl := actB_ok h
  have e : printF l ins = be 6 (actB l).length ++ (actB l ++ (be 6 ins.length ++ insB ins)) := by unfold printF; simp only [List.append_assoc]
  unfold prntO
  rw [e, rdBytes_back (by omega) (by omega), Option.bind_some]
  simp only
  rw [rdNum_back h8 (by omega), Option.bind_some]
  simp only
  rw [insO_back ins [] hi, Option.bind_some, List.nil_append, actO_back htt h, Option.bind_some]
/-- Both readings agree. -/
theorem prntO_same (ta tt ta' tt' : Nat) (h1 : 662 ≤ ta) (h2 : 64 ≤ tt) (h3 : 662 ≤ ta') (h4 : 64 ≤ tt') (b : List UInt8) : prntO ta tt b = prntO ta' tt' b := by
  have one : ∀ (ta tt ta' tt' : Nat), 662 ≤ ta' → 64 ≤ tt' → ∀ p, prntO ta tt b = some p → prntO ta' tt' b = some p := by
    rintro ta tt ta' tt' h1 h2 ⟨l, ins⟩ h
    obtain ⟨e, ho, h8, hi⟩ := prntO_some h
    rw [e]
    exact prntO_back h1 h2 ho h8 hi
  cases h : prntO ta tt b with
  | some p => rw [one ta tt ta' tt' h3 h4 p h]
  | none =>
    cases h' : prntO ta' tt' b with
    | none => rfl
    | some p => rw [one ta' tt' ta tt h1 h2 p h'] at h; cases h
end Go.G
