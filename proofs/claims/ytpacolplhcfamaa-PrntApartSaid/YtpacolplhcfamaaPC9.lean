/- A range over frames whose rounds write boxes alone. -/
import Derived.Test.YtpacolplhcfamaaPC8
namespace Go.G
open Go.Ab Go.Proofs Go.RowKit
set_option linter.unusedVariables false
set_option linter.unusedSimpArgs false

/-- A range over frames: the rounds change some boxes (S), and keep what is said of them (I). -/
theorem range_all {M0 M : Store} {b : Nat} {w : Value} {l : List UInt8} {rc : LRec} (hl : l.length ≤ 2 ^ 24) (hu : Up M0 M) (hob : Ob M b [w] Ty.sl_uint8) (hby : B M w l) (S : List Nat) (hS : ∀ s ∈ S, M0.n ≤ s ∧ s < M.n ∧ s ≠ b)
    (I : List (List UInt8) → Store → Prop) (hI : I [] M) (hIup : ∀ d N N', I d N → Up N N' → I d N') (hIS : ∀ d N, I d N → ∀ s ∈ S, ∃ cells T, N.get s = some (.inl (cells, T, true)) ∧ Ty.uint8 ≠ T)
    {K : Value → Store → Prop}
    (hround : ∀ d a N x u, I d N → Up M0 N → a = flen d → a + (x.length + 10) ≤ l.length → d ++ x :: scanF (l.drop (a + (x.length + 10))) = scanF l → B N u x → Rc N (M.n + 1) rc →
      RunsY Try.prog Ex (M.n + 1) #[.int .i64 (a : Int), u] N fun v N' => v = .bool true ∧ I (d ++ [x]) N' ∧ Rc N' (M.n + 1) rc ∧ Ch ((M.n + 1) :: S) N N')
    (hend : ∀ N, Up M0 N → I (scanF l) N → Rc N (M.n + 1) rc → N.get M.n = some (.inr (.inr none)) → K (.tuple #[]) N) :
    rfc Try.prog Ex (.func (.func F.fram_All_c1) #[] #[.pointer (some ⟨b, 0, none⟩)]) (M.n + 1) ((M.push (some (.inr (.inr none)))).push (some (.inr (.inr (some rc))))) K := by
  have u5 := Up.push M (some (.inr (.inr none)))
  have d5 : (M.push (some (.inr (.inr none)))).get M.n = some (.inr (.inr none)) := Store.get_push_eq _ _
  have n5 : (M.push (some (.inr (.inr none)))).n = M.n + 1 := rfl
  generalize M.push (some (.inr (.inr none))) = M5 at *
  have u6 := Up.push M5 (some (.inr (.inr (some rc))))
  have r6 : Rc (M5.push (some (.inr (.inr (some rc))))) (M.n + 1) rc := by rw [← n5]; exact Store.get_push_eq _ _
  have n6 : (M5.push (some (.inr (.inr (some rc))))).n = M5.n + 1 := rfl
  generalize M5.push (some (.inr (.inr (some rc)))) = M6 at *
  have u46 : Up M M6 := u5.trans u6
  have hbl := hob.lt
  show R F.fram_All_c1 #[.func (.yield (M.n + 1)) #[] #[], .pointer (some ⟨b, 0, none⟩)] M6 K
  refine Allc1_ok (w := w) hl (fun a d N => Up M0 N ∧ I d N ∧ Rc N (M.n + 1) rc ∧ Ob N b [w] Ty.sl_uint8 ∧ B N w l ∧ a = flen d ∧ d ++ scanF (l.drop a) = scanF l ∧ N.get M.n = some (.inr (.inr none))) (fun _ => False)
    ⟨hu.trans u46, hIup _ _ _ hI u46, r6, hob.up u46, Sl.up hby u46, rfl, rfl, u6.get d5⟩ ?_ ?_ ?_ ?_ ?_
  · rintro a d N N' ⟨h1, h2, h3, h4, h5, h6, h7, h8⟩ hN
    exact ⟨h1.trans hN, hIup _ _ _ h2 hN, h3.up hN, h4.up hN, Sl.up h5 hN, h6, h7, hN.get h8⟩
  · rintro a d N ⟨h1, h2, h3, h4, h5, h6, h7, h8⟩; exact ⟨h4, h5⟩
  · rintro a d N x u ⟨h1, h2, h3, h4, h5, h6, h7, h8⟩ ho ha hx
    have hall : d ++ x :: scanF (l.drop (a + (x.length + 10))) = scanF l := by
      rw [← h7, scanF_eq (l.drop a), ho]; simp only [List.drop_drop]
    refine (hround d a N x u h2 h1 h6 ha hall hx h3).mono fun v N' ⟨g1, g2, g3, g4⟩ => .inl ⟨g1, ?_⟩
    have hns : ∀ i, i < M.n → i ∉ S → i ∉ (M.n + 1) :: S := fun i hi hn hm => by
      rcases List.mem_cons.1 hm with h | h
      · omega
      · exact hn h
    have hmS : M.n ∉ (M.n + 1) :: S := fun hm => by
      rcases List.mem_cons.1 hm with h | h
      · omega
      · have := hS _ h; omega
    refine ⟨Up.ch h1 g4 fun c hc => ?_, g2, g3, g4.at h4 (hns b hbl fun hm => (hS b hm).2.2 rfl), ?_, ?_, ?_, g4.at h8 hmS⟩
    · have hle := hu.n
      rcases List.mem_cons.1 hc with h | h
      · omega
      · exact (hS c h).1
    · refine Sl.chS h5 g4 fun c hc => ?_
      rcases List.mem_cons.1 hc with h | h
      · subst h; exact .inr ⟨_, h3⟩
      · exact .inl (hIS d N h2 c h)
    · rw [flen_append, ← h6]; simp [flen]
    · rw [List.append_assoc]; exact hall
  · rintro a d N ⟨h1, h2, h3, h4, h5, h6, h7, h8⟩ ho
    rw [scanF_eq, ho, List.append_nil] at h7
    subst h7
    exact hend N h1 h2 h3 h8
  · intro N h; exact h.elim

/-! ## frames that are found -/
theorem numOf_be (k n : Nat) (h : n < 256 ^ k) : numOf (be k n) = n := by
  have : ∀ (k n m : Nat), n < 256 ^ k → (be k n).foldl (fun n c => n * 256 + c.toNat) m = m * 256 ^ k + n := by
    intro k
    induction k with
    | zero => intro n m h; simp [be]; simpa using h
    | succ k ih =>
      intro n m h
      have hpos : 0 < 256 ^ k := Nat.pow_pos (by omega)
      have hq : n / 256 ^ k < 256 := by rw [Nat.div_lt_iff_lt_mul hpos, Nat.mul_comm]; rw [Nat.pow_succ] at h; exact h
      have hbe : be k n = be k (n % 256 ^ k) := by
        have gen : ∀ (j : Nat), j ≤ k → be j n = be j (n % 256 ^ k) := by
          intro j
          induction j with
          | zero => intro _; rfl
          | succ j ihj =>
            intro hj
            simp only [be]
            rw [ihj (by omega)]
            congr 1
            have : 256 ^ k = 256 ^ j * 256 ^ (k - j) := by rw [← Nat.pow_add]; congr 1; omega
            rw [this, Nat.mod_mul_right_div_self]
            apply UInt8.toNat_inj.1
            simp only [UInt8.toNat_ofNat']
            have hd : 256 ∣ 256 ^ (k - j) := by
              obtain ⟨c, hc⟩ : ∃ c, k - j = c + 1 := ⟨k - j - 1, by omega⟩
              rw [hc, Nat.pow_succ]; exact Nat.dvd_mul_left _ _
            rw [Nat.mod_mod_of_dvd _ hd]
        exact gen k (Nat.le_refl _)
      simp only [be, List.foldl_cons]
      rw [hbe, ih _ _ (Nat.mod_lt _ hpos)]
      rw [UInt8.toNat_ofNat']
      have : n / 256 ^ k % 2 ^ 8 = n / 256 ^ k := Nat.mod_eq_of_lt hq
      rw [this, Nat.pow_succ]
      have := Nat.div_add_mod n (256 ^ k)
      have e : (m * 256 + n / 256 ^ k) * 256 ^ k = m * (256 ^ k * 256) + 256 ^ k * (n / 256 ^ k) := by
        rw [Nat.add_mul, Nat.mul_assoc, Nat.mul_comm 256 (256 ^ k), Nat.mul_comm (n / 256 ^ k)]
      omega
  have := this k n 0 h
  simpa [numOf] using this

theorem oneF_frm (x r : List UInt8) (h : x.length ≤ 10000) : oneF (frm x ++ r) = some x := by
  have e0 : frm x ++ r = be 6 x.length ++ (x ++ (sum4 (crc (be 6 x.length ++ x)) ++ r)) := by simp [frm]
  have e1 : (frm x ++ r).take 6 = be 6 x.length := by rw [e0, List.take_left' (be_length _ _)]
  have e2 : numOf ((frm x ++ r).take 6) = x.length := by rw [e1, numOf_be _ _ (by omega)]
  have e3 : (frm x ++ r).drop 6 = x ++ (sum4 (crc (be 6 x.length ++ x)) ++ r) := by rw [e0, List.drop_left' (be_length _ _)]
  have hl : (frm x ++ r).length = x.length + 10 + r.length := by rw [List.length_append, frm_length]
  have hb : rdBytes 10000 (frm x ++ r) false = some (x, sum4 (crc (be 6 x.length ++ x)) ++ r) := by
    refine rdBytes_iff.2 ⟨by omega, by omega, by omega, ?_, ?_⟩
    · rw [e2, e3, List.take_left' rfl]
    · rw [e2, ← List.drop_drop, e3, List.drop_left' rfl]
  simp only [oneF, hb, Option.bind_some]
  rw [if_neg (by simp [sum4]), if_pos]
  have e4 : (frm x ++ r).take (6 + x.length) = be 6 x.length ++ x := by
    rw [e0, ← List.append_assoc, List.take_left' (by simp [be_length])]
  rw [e4]; exact (List.take_left' rfl).symm

theorem scanF_frm (x r : List UInt8) (h : x.length ≤ 10000) : scanF (frm x ++ r) = x :: scanF r := by
  rw [scanF_eq, oneF_frm x r h]
  simp only
  rw [List.drop_left' (frm_length x)]
theorem scanF_short (r : List UInt8) (h : r.length < 10) : scanF r = [] := by
  rw [scanF_eq]
  cases ho : oneF r with
  | none => rfl
  | some x => have := oneF_len ho; omega

end Go.G
