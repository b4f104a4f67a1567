/- The proposition made along a function's code, cut where its ways meet, suffices for a call. -/
import Derived.Test.YtmdbdbjaipcgeaaAbWp3
set_option linter.unusedVariables false
set_option linter.unusedSimpArgs false
namespace Go.Ab

abbrev Cont := AExit → AAct → Store → Prop
def CW (P : Program) (E : Ext) (rd : Option Nat) (c : Code) (a : AAct) (M : Store) (K : Cont) : Prop :=
  ∃ k e a' M', acode P (acall P E k) k rd c a M = some (e, a', M') ∧ K e a' M'

section
variable {P : Program} {E : Ext} {rd : Option Nat}

theorem CW.mono {c : Code} {a : AAct} {M : Store} {K K' : Cont} (h : CW P E rd c a M K) (hk : ∀ e a M, K e a M → K' e a M) : CW P E rd c a M K' := by
  obtain ⟨k, e, a', M', h1, h2⟩ := h
  exact ⟨k, e, a', M', h1, hk _ _ _ h2⟩
theorem CW.seq {x y : Code} {a : AAct} {M : Store} {K : Cont} (h : CW P E rd x a M fun e a M => bif Nat.beq e 0 then CW P E rd y a M K else K e a M) : CW P E rd (.seq x y) a M K := by
  obtain ⟨k, e, a', M', h1, h2⟩ := h
  cases e with
  | zero =>
    obtain ⟨k2, e2, a2, M2, h3, h4⟩ := h2
    refine ⟨max k k2, e2, a2, M2, ?_, h4⟩
    rw [acode, acode_mono (acall_le P E (Nat.le_max_left k k2)) (Nat.le_max_left k k2) _ h1]
    exact acode_mono (acall_le P E (Nat.le_max_right k k2)) (Nat.le_max_right k k2) _ h3
  | succ e => exact ⟨k, e + 1, a', M', by rw [acode, h1]; rfl, h2⟩
theorem CW.seq_inv {x y : Code} {a : AAct} {M : Store} {K : Cont} (h : CW P E rd (.seq x y) a M K) : CW P E rd x a M fun e a M => bif Nat.beq e 0 then CW P E rd y a M K else K e a M := by
  obtain ⟨k, e, a', M', h1, h2⟩ := h
  rw [acode] at h1
  cases hx : acode P (acall P E k) k rd x a M with
  | none => rw [hx] at h1; cases h1
  | some q =>
    rw [hx] at h1
    obtain ⟨e1, a1, M1⟩ := q
    refine ⟨k, e1, a1, M1, hx, ?_⟩
    cases e1 with
    | zero => exact ⟨k, e, a', M', h1, h2⟩
    | succ e1 =>
      simp only [Option.some.injEq, Prod.mk.injEq] at h1
      obtain ⟨rfl, rfl, rfl⟩ := h1
      exact h2
theorem CW.block {id : Nat} {x : Code} {a : AAct} {M : Store} {K : Cont} (h : CW P E rd x a M fun e a M => K (bif Nat.beq e (id + 2) then 0 else e) a M) : CW P E rd (.block id x) a M K := by
  obtain ⟨k, e, a', M', h1, h2⟩ := h
  refine ⟨k, _, a', M', by rw [acode, h1], ?_⟩
  cases he : Nat.beq e (id + 2) with
  | true => rw [he] at h2; rw [if_pos (Nat.eq_of_beq_eq_true he)]; exact h2
  | false => rw [he] at h2; rw [if_neg (Nat.ne_of_beq_eq_false he)]; exact h2
theorem CW.block_inv {id : Nat} {x : Code} {a : AAct} {M : Store} {K : Cont} (h : CW P E rd (.block id x) a M K) : CW P E rd x a M fun e a M => K (bif Nat.beq e (id + 2) then 0 else e) a M := by
  obtain ⟨k, e, a', M', h1, h2⟩ := h
  rw [acode] at h1
  cases hx : acode P (acall P E k) k rd x a M with
  | none => rw [hx] at h1; cases h1
  | some q =>
    rw [hx] at h1
    obtain ⟨e1, a1, M1⟩ := q
    simp only [Option.some.injEq, Prod.mk.injEq] at h1
    obtain ⟨rfl, rfl, rfl⟩ := h1
    refine ⟨k, e1, a1, M1, hx, ?_⟩
    cases he : Nat.beq e1 (id + 2) with
    | true => rw [if_pos (Nat.eq_of_beq_eq_true he)] at h2; simp only [he]; exact h2
    | false => rw [if_neg (Nat.ne_of_beq_eq_false he)] at h2; simp only [he]; exact h2
theorem CW.cond {c : Operand} {x y : Code} {a : AAct} {M : Store} {K : Cont} (h : BR (a.eval c) (CW P E rd x a M K) (CW P E rd y a M K)) : CW P E rd (.cond c x y) a M K := by
  unfold BR at h
  split at h
  · rename_i hc
    obtain ⟨k, e, a', M', h1, h2⟩ := h
    exact ⟨k, e, a', M', by rw [acode, hc]; exact h1, h2⟩
  · rename_i hc
    obtain ⟨k, e, a', M', h1, h2⟩ := h
    exact ⟨k, e, a', M', by rw [acode, hc]; exact h1, h2⟩
  · exact h.elim
theorem CW.cond_inv {c : Operand} {x y : Code} {a : AAct} {M : Store} {K : Cont} (h : CW P E rd (.cond c x y) a M K) : BR (a.eval c) (CW P E rd x a M K) (CW P E rd y a M K) := by
  obtain ⟨k, e, a', M', h1, h2⟩ := h
  rw [acode] at h1
  split at h1
  · rename_i t ht
    rw [ht]
    cases t with
    | true => exact ⟨k, e, a', M', h1, h2⟩
    | false => exact ⟨k, e, a', M', h1, h2⟩
  · cases h1
theorem CW.loop {x : Code} {a : AAct} {M : Store} {K : Cont} (h : CW P E rd x a M fun e a M => bif Nat.beq e 0 then CW P E rd (.loop x) a M K else K e a M) : CW P E rd (.loop x) a M K := by
  obtain ⟨k, e, a', M', h1, h2⟩ := h
  cases e with
  | zero =>
    obtain ⟨k2, e2, a2, M2, h3, h4⟩ := h2
    refine ⟨max k k2 + 1, e2, a2, M2, ?_, h4⟩
    rw [acode] at h3 ⊢
    have hk : k ≤ max k k2 + 1 := by omega
    have hk2 : k2 ≤ max k k2 := by omega
    rw [aloop, acode_mono (acall_le P E hk) hk _ h1]
    exact aloop_mono (fun a M r => acode_mono (acall_le P E (by omega)) (by omega) x) hk2 h3
  | succ e =>
    refine ⟨k + 1, e + 1, a', M', ?_, h2⟩
    rw [acode, aloop, acode_mono (acall_le P E (Nat.le_succ k)) (Nat.le_succ k) _ h1]; rfl

/-! ## along the code -/
def kwp (P : Program) (E : Ext) (rd : Option Nat) : Code → AAct → Store → Cont → Prop
  | .skip, a, M, K => K 0 a M
  | .region _ ops draw, a, M, K => bif draw then krunD P E ops (befs ops.toList []) ops.toList 0 [M.n] a M (K 0)
      else kgroups P E ops (groups ops.toList) a M (K 0)
  | .seq x y, a, M, K => kwp P E rd x a M fun e a M => bif Nat.beq e 0 then kwp P E rd y a M K else K e a M
  | .cond c x y, a, M, K => BR (a.eval c) (kwp P E rd x a M K) (kwp P E rd y a M K)
  | .block id x, a, M, K => kwp P E rd x a M fun e a M => K (bif Nat.beq e (id + 2) then 0 else e) a M
  | .loop x, a, M, K => CW P E rd (.loop x) a M K
  | .exit id, a, M, K => K (id + 2) a M
  | .ret, a, M, K => K 1 a M
  | c, a, M, K => CW P E rd c a M K

theorem kwp_sound : ∀ (c : Code) {a : AAct} {M : Store} {K : Cont}, kwp P E rd c a M K → CW P E rd c a M K
  | .skip, a, M, K, h => ⟨0, 0, a, M, rfl, h⟩
  | .region _ ops draw, a, M, K, h => by
    simp only [kwp] at h
    cases draw with
    | true =>
      simp only [cond_true] at h
      obtain ⟨k, a', M', h1, h2⟩ := draw_sound h
      exact ⟨k, 0, a', M', by rw [acode, if_pos rfl, h1]; rfl, h2⟩
    | false =>
      simp only [cond_false] at h
      obtain ⟨hf, hg⟩ := groups_ok ops.toList
      obtain ⟨k, a', M', h1, h2⟩ := kgroups_sound _ _ _ _ hg h
      rw [hf] at h1
      exact ⟨k, 0, a', M', by rw [acode, if_neg (by decide), h1]; rfl, h2⟩
  | .seq x y, a, M, K, h => by
    simp only [kwp] at h
    refine CW.seq ((kwp_sound x h).mono fun e a M h => ?_)
    cases he : Nat.beq e 0 with
    | true => rw [he] at h; exact kwp_sound y h
    | false => rw [he] at h; exact h
  | .cond c x y, a, M, K, h => by
    simp only [kwp] at h
    refine CW.cond ?_
    unfold BR at h ⊢
    split at h
    · exact kwp_sound x h
    · exact kwp_sound y h
    · exact h.elim
  | .block id x, a, M, K, h => by
    simp only [kwp] at h
    exact CW.block (kwp_sound x h)
  | .loop x, a, M, K, h => h
  | .exit id, a, M, K, h => ⟨0, id + 2, a, M, rfl, h⟩
  | .ret, a, M, K, h => ⟨0, 1, a, M, rfl, h⟩
  | .rangeFunc _ _ _ _, a, M, K, h => h
  | .scope _, a, M, K, h => h
  | .label _, a, M, K, h => h
  | .goto _, a, M, K, h => h
  | .refuse _, a, M, K, h => h

/-! ## code that is cut -/
inductive CT where
  | no
  | here (m : Nat)
  | two (l r : CT)
def cutT : Code → CT → Code
  | _, .here m => .exit m
  | .seq x y, .two l r => .seq (cutT x l) (cutT y r)
  | .cond c x y, .two l r => .cond c (cutT x l) (cutT y r)
  | .block id x, .two l _ => .block id (cutT x l)
  | c, _ => c
/-- No loop, no range over a function, each jump's number below a bound. -/
def plain (B : Nat) : Code → Bool
  | .seq x y => plain B x && plain B y
  | .cond _ x y => plain B x && plain B y
  | .block id x => Nat.blt id B && plain B x
  | .exit id => Nat.blt id B
  | .skip => true
  | .region _ _ _ => true
  | .ret => true
  | _ => false
def cutOk (B : Nat) : Code → CT → Bool
  | _, .here m => Nat.ble B m
  | .seq x y, .two l r => cutOk B x l && cutOk B y r
  | .cond _ x y, .two l r => cutOk B x l && cutOk B y r
  | .block id x, .two l _ => Nat.blt id B && cutOk B x l
  | c, _ => plain B c
def leaves (P : Program) (E : Ext) (rd : Option Nat) : Code → CT → Cont → List (Nat × (AAct → Store → Prop))
  | c, .here m, K => [(m, fun a M => CW P E rd c a M K)]
  | .seq x y, .two l r, K => leaves P E rd x l (fun e a M => bif Nat.beq e 0 then CW P E rd y a M K else K e a M) ++ leaves P E rd y r K
  | .cond _ x y, .two l r, K => leaves P E rd x l K ++ leaves P E rd y r K
  | .block id x, .two l _, K => leaves P E rd x l fun e a M => K (bif Nat.beq e (id + 2) then 0 else e) a M
  | _, _, _ => []

theorem plain_exit {B : Nat} {call : ACall} {k : Nat} : ∀ (c : Code) {a a' : AAct} {M M' : Store} {e : Nat}, plain B c = true → acode P call k rd c a M = some (e, a', M') → e < B + 2
  | .skip, _, _, _, _, _, _, h => by simp only [acode, Option.some.injEq, Prod.mk.injEq] at h; obtain ⟨rfl, _⟩ := h; exact Nat.succ_pos _
  | .region _ ops draw, a, a', M, M', e, _, h => by
    simp only [acode] at h
    obtain ⟨r, _, h3⟩ := Option.bind_eq_some_iff.1 h
    simp only [Option.some.injEq, Prod.mk.injEq] at h3
    obtain ⟨rfl, _⟩ := h3
    exact Nat.succ_pos _
  | .seq x y, a, a', M, M', e, hp, h => by
    simp only [plain, Bool.and_eq_true] at hp
    simp only [acode] at h
    cases hx : acode P call k rd x a M with
    | none => rw [hx] at h; cases h
    | some q =>
      rw [hx] at h
      obtain ⟨e1, a1, M1⟩ := q
      cases e1 with
      | zero => exact plain_exit y hp.2 h
      | succ e1 =>
        simp only [Option.some.injEq, Prod.mk.injEq] at h
        obtain ⟨rfl, _, _⟩ := h
        exact plain_exit x hp.1 hx
  | .cond c x y, a, a', M, M', e, hp, h => by
    simp only [plain, Bool.and_eq_true] at hp
    simp only [acode] at h
    split at h
    · split at h
      · exact plain_exit x hp.1 h
      · exact plain_exit y hp.2 h
    · cases h
  | .block id x, a, a', M, M', e, hp, h => by
    simp only [plain, Bool.and_eq_true] at hp
    simp only [acode] at h
    cases hx : acode P call k rd x a M with
    | none => rw [hx] at h; cases h
    | some q =>
      rw [hx] at h
      obtain ⟨e1, a1, M1⟩ := q
      have := plain_exit x hp.2 hx
      simp only [Option.some.injEq, Prod.mk.injEq] at h
      obtain ⟨rfl, _, _⟩ := h
      split
      · exact Nat.succ_pos _
      · exact this
  | .exit id, a, a', M, M', e, hp, h => by
    simp only [acode, Option.some.injEq, Prod.mk.injEq] at h
    simp only [plain, Nat.blt_eq] at hp
    obtain ⟨rfl, _⟩ := h
    exact Nat.add_lt_add_right hp 2
  | .ret, a, a', M, M', e, hp, h => by simp only [acode, Option.some.injEq, Prod.mk.injEq] at h; obtain ⟨rfl, _⟩ := h; exact Nat.succ_lt_succ (Nat.succ_pos _)
  | .loop _, _, _, _, _, _, hp, _ => by cases hp
  | .rangeFunc _ _ _ _, _, _, _, _, _, hp, _ => by cases hp
  | .scope _, _, _, _, _, _, hp, _ => by cases hp
  | .label _, _, _, _, _, _, hp, _ => by cases hp
  | .goto _, _, _, _, _, _, hp, _ => by cases hp
  | .refuse _, _, _, _, _, _, hp, _ => by cases hp

theorem uncut_sound {B N : Nat} {c : Code} (hp : plain B c = true) {a : AAct} {M : Store} {K Kd : Cont} (ha : a.t.n = N)
    (hx : ∀ e a' M', e < B + 2 → a'.t.n = N → Kd e a' M' → K e a' M') (h : CW P E rd c a M Kd) : CW P E rd c a M K := by
  obtain ⟨k, e, a', M', h1, h2⟩ := h
  exact ⟨k, e, a', M', h1, hx _ _ _ (plain_exit c hp h1) ((acode_n c h1).1.trans ha) h2⟩

theorem CW.like {N : Nat} {c : Code} {a : AAct} {M : Store} {K : Cont} (ha : a.t.n = N) (h : CW P E rd c a M K) : CW P E rd c a M fun e a' M' => a'.t.n = N ∧ K e a' M' := by
  obtain ⟨k, e, a', M', h1, h2⟩ := h
  exact ⟨k, e, a', M', h1, (acode_n c h1).1.trans ha, h2⟩

theorem cut_sound {B N : Nat} : ∀ (c : Code) (ct : CT) {a : AAct} {M : Store} {K Kd : Cont}, cutOk B c ct = true → a.t.n = N →
    (∀ m p, (m, p) ∈ leaves P E rd c ct K → ∀ a' M', a'.t.n = N → Kd (m + 2) a' M' → p a' M') →
    (∀ e a' M', e < B + 2 → a'.t.n = N → Kd e a' M' → K e a' M') → CW P E rd (cutT c ct) a M Kd → CW P E rd c a M K := by
  intro c
  induction c with
  | seq x y ihx ihy =>
    intro ct a M K Kd hc ha hl hx h
    cases ct with
    | no => exact uncut_sound (by simpa [cutOk] using hc) ha hx h
    | here m =>
      obtain ⟨k, e, a', M', h1, h2⟩ := h
      simp only [cutT, acode, Option.some.injEq, Prod.mk.injEq] at h1
      obtain ⟨rfl, rfl, rfl⟩ := h1
      exact hl m _ (by simp only [leaves]; exact List.mem_singleton.2 rfl) _ _ ha h2
    | two l r =>
      simp only [cutOk, Bool.and_eq_true] at hc
      simp only [cutT] at h
      refine CW.seq (ihx l hc.1 ha (Kd := fun e a M => bif Nat.beq e 0 then CW P E rd (cutT y r) a M Kd else Kd e a M) ?_ ?_ (CW.seq_inv h))
      · intro m p hm a' M' hn hk
        exact hl m p (by simp only [leaves]; exact List.mem_append_left _ hm) a' M' hn hk
      · intro e a' M' he hn hk
        cases h0 : Nat.beq e 0 with
        | true =>
          rw [h0] at hk
          exact ihy r hc.2 hn (fun m p hm => hl m p (by simp only [leaves]; exact List.mem_append_right _ hm)) hx hk
        | false =>
          rw [h0] at hk
          exact hx e a' M' he hn hk
  | cond v x y ihx ihy =>
    intro ct a M K Kd hc ha hl hx h
    cases ct with
    | no => exact uncut_sound (by simpa [cutOk] using hc) ha hx h
    | here m =>
      obtain ⟨k, e, a', M', h1, h2⟩ := h
      simp only [cutT, acode, Option.some.injEq, Prod.mk.injEq] at h1
      obtain ⟨rfl, rfl, rfl⟩ := h1
      exact hl m _ (by simp only [leaves]; exact List.mem_singleton.2 rfl) _ _ ha h2
    | two l r =>
      simp only [cutOk, Bool.and_eq_true] at hc
      simp only [cutT] at h
      refine CW.cond ?_
      have h := CW.cond_inv h
      unfold BR at h ⊢
      split at h
      · exact ihx l hc.1 ha (fun m p hm => hl m p (by simp only [leaves]; exact List.mem_append_left _ hm)) hx h
      · exact ihy r hc.2 ha (fun m p hm => hl m p (by simp only [leaves]; exact List.mem_append_right _ hm)) hx h
      · exact h.elim
  | block id x ihx =>
    intro ct a M K Kd hc ha hl hx h
    cases ct with
    | no => exact uncut_sound (by simpa [cutOk] using hc) ha hx h
    | here m =>
      obtain ⟨k, e, a', M', h1, h2⟩ := h
      simp only [cutT, acode, Option.some.injEq, Prod.mk.injEq] at h1
      obtain ⟨rfl, rfl, rfl⟩ := h1
      exact hl m _ (by simp only [leaves]; exact List.mem_singleton.2 rfl) _ _ ha h2
    | two l r =>
      simp only [cutOk, Bool.and_eq_true, Nat.blt_eq] at hc
      simp only [cutT] at h
      refine CW.block (ihx l hc.2 ha (Kd := fun e a M => Kd (bif Nat.beq e (id + 2) then 0 else e) a M) ?_ ?_ (CW.block_inv h))
      · intro m p hm a' M' hn hk
        have hm' : (m, p) ∈ leaves P E rd (.block id x) (.two l r) K := by simp only [leaves]; exact hm
        have hB : B ≤ m := by
          have : ∀ (c : Code) (ct : CT) (K : Cont) (m : Nat) p, cutOk B c ct = true → (m, p) ∈ leaves P E rd c ct K → B ≤ m := by
            intro c
            induction c with
            | seq x y ihx ihy =>
              intro ct K m p hc hm
              cases ct with
              | no => simp [leaves] at hm
              | here q => simp only [leaves, List.mem_singleton, Prod.mk.injEq] at hm; obtain ⟨rfl, _⟩ := hm; exact Nat.le_of_ble_eq_true hc
              | two l r =>
                simp only [cutOk, Bool.and_eq_true] at hc
                simp only [leaves, List.mem_append] at hm
                rcases hm with hm | hm
                · exact ihx _ _ _ _ hc.1 hm
                · exact ihy _ _ _ _ hc.2 hm
            | cond v x y ihx ihy =>
              intro ct K m p hc hm
              cases ct with
              | no => simp [leaves] at hm
              | here q => simp only [leaves, List.mem_singleton, Prod.mk.injEq] at hm; obtain ⟨rfl, _⟩ := hm; exact Nat.le_of_ble_eq_true hc
              | two l r =>
                simp only [cutOk, Bool.and_eq_true] at hc
                simp only [leaves, List.mem_append] at hm
                rcases hm with hm | hm
                · exact ihx _ _ _ _ hc.1 hm
                · exact ihy _ _ _ _ hc.2 hm
            | block id x ihx =>
              intro ct K m p hc hm
              cases ct with
              | no => simp [leaves] at hm
              | here q => simp only [leaves, List.mem_singleton, Prod.mk.injEq] at hm; obtain ⟨rfl, _⟩ := hm; exact Nat.le_of_ble_eq_true hc
              | two l r =>
                simp only [cutOk, Bool.and_eq_true] at hc
                simp only [leaves] at hm
                exact ihx _ _ _ _ hc.2 hm
            | _ =>
              intro ct K m p hc hm
              cases ct with
              | no => simp [leaves] at hm
              | here q => simp only [leaves, List.mem_singleton, Prod.mk.injEq] at hm; obtain ⟨rfl, _⟩ := hm; exact Nat.le_of_ble_eq_true hc
              | two l r => simp [leaves] at hm
          exact this _ _ _ _ _ hc.2 hm
        refine hl m p hm' a' M' hn ?_
        have hne : Nat.beq (m + 2) (id + 2) = false := by
          cases hb : Nat.beq (m + 2) (id + 2) with
          | false => rfl
          | true => have := Nat.eq_of_beq_eq_true hb; omega
        rw [hne] at hk; exact hk
      · intro e a' M' he hn hk
        refine hx _ a' M' ?_ hn hk
        cases Nat.beq e (id + 2) <;> simp <;> omega
  | _ =>
    intro ct a M K Kd hc ha hl hx h
    cases ct with
    | no => exact uncut_sound (by simpa [cutOk] using hc) ha hx h
    | here m =>
      obtain ⟨k, e, a', M', h1, h2⟩ := h
      simp only [cutT, acode, Option.some.injEq, Prod.mk.injEq] at h1
      obtain ⟨rfl, rfl, rfl⟩ := h1
      exact hl m _ (by simp only [leaves]; exact List.mem_singleton.2 rfl) _ _ ha h2
    | two l r => exact uncut_sound (by simpa [cutOk] using hc) ha hx h

/-! ## the rule -/
/-- A way out: its number, what is shown there, what is needed there. -/
structure Ent where
  e : Nat
  d : AAct → Store → Prop
  t : AAct → Store → Prop
def disp : List Ent → Cont
  | [], _, _, _ => False
  | x :: r, e, a, M => bif Nat.beq x.e e then x.d a M else disp r e a M
def tgt : List Ent → Nat → AAct → Store → Prop
  | [], _ => fun _ _ => False
  | x :: r, e => bif Nat.beq x.e e then x.t else tgt r e
def AllE (N : Nat) : List Ent → Prop
  | [] => True
  | x :: r => (∀ a M, a.t.n = N → x.d a M → x.t a M) ∧ AllE N r
theorem disp_tgt {N : Nat} : ∀ (L : List Ent), AllE N L → ∀ e a M, a.t.n = N → disp L e a M → tgt L e a M ∧ e ∈ L.map (·.e)
  | [], _, _, _, _, _, h => h.elim
  | x :: r, hL, e, a, M, hn, h => by
    simp only [disp] at h
    simp only [tgt]
    cases he : Nat.beq x.e e with
    | true => rw [he] at h; exact ⟨hL.1 a M hn h, by simp [Nat.eq_of_beq_eq_true he]⟩
    | false =>
      rw [he] at h
      have := disp_tgt r hL.2 e a M hn h
      exact ⟨this.1, List.mem_cons_of_mem _ this.2⟩

theorem rule {B N : Nat} {c : Code} {ct : CT} {K : Cont} {a : AAct} {M : Store} (L : List Ent) (ms es : List Nat) (ha : a.t.n = N) (hc : cutOk B c ct = true)
    (hl : leaves P E rd c ct K = ms.map fun m => (m, tgt L (m + 2)))
    (hx : es.map K = es.map (tgt L)) (hes : ((L.map (·.e)).all fun e => Nat.ble (B + 2) e || es.elem e) = true)
    (hL : AllE N L) (h : kwp P E rd (cutT c ct) a M (disp L)) : CW P E rd c a M K := by
  refine cut_sound (B := B) (N := N) c ct hc ha ?_ ?_ (kwp_sound _ h)
  · intro m p hm a' M' hn hk
    rw [hl] at hm
    obtain ⟨m', _, hm'⟩ := List.mem_map.1 hm
    injection hm' with e1 e2
    subst e1; subst e2
    exact (disp_tgt L hL _ _ _ hn hk).1
  · intro e a' M' he hn hk
    obtain ⟨h1, h2⟩ := disp_tgt L hL _ _ _ hn hk
    have h3 := List.all_eq_true.1 hes e h2
    rw [Bool.or_eq_true] at h3
    rcases h3 with h3 | h3
    · have := Nat.le_of_ble_eq_true h3; omega
    · have h4 : e ∈ es := by simpa using h3
      have : ∀ (l : List Nat), l.map K = l.map (tgt L) → e ∈ l → K e = tgt L e := by
        intro l
        induction l with
        | nil => intro _ h; cases h
        | cons x l ih =>
          intro h1 h2
          simp only [List.map_cons, List.cons.injEq] at h1
          rcases List.mem_cons.1 h2 with rfl | h2
          · exact h1.1
          · exact ih h1.2 h2
      rw [this es hx h4]; exact h1

/-! ## places in code -/
def sub : Code → List Nat → Code
  | c, [] => c
  | .seq x _, 0 :: p => sub x p
  | .seq _ y, _ :: p => sub y p
  | .cond _ x _, 0 :: p => sub x p
  | .cond _ _ y, _ :: p => sub y p
  | .block _ x, _ :: p => sub x p
  | .loop x, _ :: p => sub x p
  | .rangeFunc _ _ x _, 0 :: p => sub x p
  | .rangeFunc _ _ _ y, _ :: p => sub y p
  | c, _ => c
def kcont (P : Program) (E : Ext) (rd : Option Nat) : Code → List Nat → Cont → Cont
  | _, [], K => K
  | .seq x y, 0 :: p, K => kcont P E rd x p fun e a M => bif Nat.beq e 0 then CW P E rd y a M K else K e a M
  | .seq _ y, _ :: p, K => kcont P E rd y p K
  | .cond _ x _, 0 :: p, K => kcont P E rd x p K
  | .cond _ _ y, _ :: p, K => kcont P E rd y p K
  | .block id x, _ :: p, K => kcont P E rd x p fun e a M => K (bif Nat.beq e (id + 2) then 0 else e) a M
  | .loop x, _ :: p, K => kcont P E rd x p fun e a M => bif Nat.beq e 0 then CW P E rd (.loop x) a M K else K e a M
  | _, _, K => K

def bodyOf (fn : Func) : Code := fn.body.getD .skip
/-- A function's results. -/
def kres (P : Program) : List ResultVar → AAct → Store → (List Value → Prop) → Prop
  | [], _, _, k => k []
  | .tmp t :: r, a, M, k => kres P r a M fun q => k (a.get t :: q)
  | .cell t ty :: r, a, M, k => match P.underlying ty, szOf P ty with
    | some d, some s => OP (ld s (aggT d) (a.get t) M) fun v => kres P r a M fun q => k (v :: q)
    | _, _ => False
theorem aload_of {P : Program} {t : TypeId} {d : TypeDesc} {s : Nat} (hd : P.underlying t = some d) (hs : szOf P t = some s) {x v : Value} {M : Store} (h : ld s (aggT d) x M = some v) : aload P t x M = some v := by
  unfold ld at h
  split at h
  · simp only [aload, hd, hs, Option.bind_some, valOf_eq]; exact h
  · cases h
def NTs (vs : List Value) : Prop := vs.all notTuple = true
def kfin (P : Program) (rs : List ResultVar) (Q : Value → Store → Prop) : Cont := fun e a M =>
  bif Nat.ble e 1 then OP (atake a.defers M) fun M => kres P rs a M fun vs => NTs vs ∧ Q (atuple vs) M else False
theorem kres_sound : ∀ (rs : List ResultVar) {a : AAct} {M : Store} {k : List Value → Prop}, kres P rs a M k → ∃ vs, ares P rs a M = some vs ∧ k vs
  | [], a, M, k, h => ⟨[], rfl, h⟩
  | .tmp t :: r, a, M, k, h => by
    obtain ⟨vs, h1, h2⟩ := kres_sound r h
    exact ⟨_, by rw [ares, h1]; rfl, h2⟩
  | .cell t ty :: r, a, M, k, h => by
    simp only [kres] at h
    split at h
    · rename_i d s hd hs
      obtain ⟨v, h1, h2⟩ := OP_iff.1 h
      obtain ⟨vs, h3, h4⟩ := kres_sound r h2
      exact ⟨_, by rw [ares, aload_of hd hs h1, Option.bind_some, h3]; rfl, h4⟩
    · exact h.elim

def At (P : Program) (E : Ext) (rd : Option Nat) (fn : Func) (p : List Nat) (a : AAct) (M : Store) (Q : Value → Store → Prop) : Prop :=
  CW P E rd (sub (bodyOf fn) p) a M (kcont P E rd (bodyOf fn) p (kfin P fn.results.toList Q))

theorem runs_of {f : FuncId} {fn : Func} {c : Code} (hf : P.funcs[f]? = some fn) (hE : E f = none) (hb : fn.body = some c) (hn : (fn.name == "runtime.NumGoroutine") = false) {args : Array Value} {M : Store} {Q : Value → Store → Prop}
    (h : At P E none fn [] (AAct.enter fn.ntmps args.toList) M Q) : Runs P E f args M Q := by
  obtain ⟨k, e, a', M', h1, h2⟩ := h
  simp only [sub, bodyOf, hb, Option.getD_some] at h1
  simp only [kcont, kfin] at h2
  cases he : Nat.ble e 1 with
  | false => rw [he] at h2; exact h2.elim
  | true =>
    rw [he] at h2
    obtain ⟨M1, h3, h4⟩ := OP_iff.1 h2
    obtain ⟨vs, h5, h6, h7⟩ := kres_sound _ h4
    refine ⟨k + 1, atuple vs, M1, ?_, h7⟩
    rw [acall]
    simp only [hE, hf, hb]
    rw [if_neg (by rw [hn]; decide), h1]
    simp only
    rw [if_pos (Nat.le_of_ble_eq_true he), h3, Option.bind_some, h5, Option.bind_some, if_pos (show vs.all notTuple = true from h6)]

/-- Where no deferred call is pending. -/
def dfr (ds : List Deferred) (p : Prop) : Prop := match ds with
  | [] => p
  | _ => False
theorem dfr_iff {ds : List Deferred} {p : Prop} (h : dfr ds p) : ds = [] ∧ p := by
  cases ds with
  | nil => exact ⟨rfl, h⟩
  | cons x l => exact h.elim
end
end Go.Ab
