/- The abstract machine's maps, lengths, copies are the model's. -/
import Derived.Test.YtmdbdbjaipcgeaaAbMem6
set_option linter.unusedVariables false
set_option linter.unusedSimpArgs false
namespace Go.Ab
open Go.RowKit

theorem VRel.D {P : Program} {μ : Map} {sh : Shp} {u v : Value} (h : VRel P μ sh u v) (h1 : v.cells.all (·.oneCell') = true) : DRel P μ sh u v := by
  rcases h.inv with h | ⟨a, b, rfl, rfl, _⟩
  · exact h
  · simp [Value.cells, Value.oneCell'] at h1
theorem plain_one {v : Value} (h : plainV v = true) : v.oneCell' = true := by
  cases v <;> first | rfl | (simp [plainV] at h)
theorem plainZ {P : Program} {μ : Map} {sh : Shp} {z : Value} (h : z.cells.all plainV = true) : DRel P μ sh z z ∧ z.cells.all (·.oneCell') = true := by
  have h1 : z.cells.all (·.oneCell') = true := Array.all_eq_true_iff_forall_mem.2 fun v hv => plain_one (Array.all_eq_true_iff_forall_mem.1 h v hv)
  refine ⟨?_, h1⟩
  have hc := plain_cells (P := P) (μ := μ) (sh := sh) h
  cases z <;> first
    | exact hc
    | exact .of_C hc.head
    | (simp [Value.cells, Value.oneCell'] at h1)

theorem alen_run {P : Program} {μ : Map} {M : Store} {w : World} (hR : Rel P μ M w) {ts : Array TypeId} {t ty : TypeId} {x cx r : Value} (ht : ts[0]? = some t) (h : alen P t x M = some r) (hx : VRel P μ w.shape? cx x) :
    (Builtin.len_ ts ty #[cx]).run P w = .ok r w ∧ VRel P μ w.shape? r r := by
  unfold alen at h
  split at h
  · rename_i s hu
    obtain rfl := hx.string
    injection h with h; subst h
    exact ⟨by simp [Builtin.len_, ht, run_underlying' hu], VRel.mkInt _ _⟩
  · rename_i e a n c hu
    obtain ⟨ac, cc, rfl, hs⟩ := hx.slice
    injection h with h; subst h
    exact ⟨by simp [Builtin.len_, ht, run_underlying' hu], VRel.mkInt _ _⟩
  · rename_i n e hu
    injection h with h; subst h
    exact ⟨by simp [Builtin.len_, ht, run_underlying' hu], VRel.mkInt _ _⟩
  · rename_i kt e hu
    obtain ⟨a, rfl, ha⟩ := hx.map
    cases a <;> first | exact ha.elim | skip
    injection h with h; subst h
    exact ⟨by simp [Builtin.len_, ht, run_underlying' hu], VRel.mkInt _ _⟩
  · rename_i kt e i hu
    obtain ⟨a, rfl, ha⟩ := hx.map
    cases a <;> first | exact ha.elim | skip
    obtain ⟨l, hl, rfl⟩ := ha
    split at h
    · rename_i es hg
      injection h with h; subst h
      have ho := hR.obj _ _ hl
      rw [hg] at ho
      obtain ⟨_, en, ck, hb, hn, _⟩ := ho
      refine ⟨?_, VRel.mkInt _ _⟩
      have : (getObj l.b).run P w = .ok (.map en ck) w := by simp [getObj, Sem.run, hb]
      simp only [Builtin.len_, ht, List.getElem?_toArray, List.getElem?_cons_zero, Sem.run_bind, run_underlying' hu, Result.andThen_ok, this, Sem.run_pure]
      simp only [Array.length_toList] at hn
      rw [hn]
    · cases h
  · cases h

/-! ## maps -/
theorem keyV_rel {P : Program} {μ : Map} {sh : Shp} {d : TypeDesc} {u v : Value} (h : VRel P μ sh u v) (hk : keyV d v = true) : u = v := plain_eq h ⟨d, hk⟩
theorem keyV_cases {d : TypeDesc} {v : Value} (h : keyV d v = true) : (∃ k n, d = .int k ∧ v = .int k n) ∨ (∃ s, d = .string ∧ v = .string s) ∨ (∃ b, d = .bool ∧ v = .bool b) := by
  cases d <;> cases v <;> simp [keyV] at h
  · exact .inr (.inr ⟨_, rfl, rfl⟩)
  · subst h; exact .inl ⟨_, _, rfl, rfl⟩
  · exact .inr (.inl ⟨_, rfl, rfl⟩)
theorem keyV_plain {d : TypeDesc} {v : Value} (h : keyV d v = true) : plainV v = true := by
  rcases keyV_cases h with ⟨k, n, _, rfl⟩ | ⟨s, _, rfl⟩ | ⟨b, _, rfl⟩ <;> rfl

theorem checkKey_run {P : Program} {kt : TypeId} {kd : TypeDesc} {k : Value} (hu : P.underlying kt = some kd) (hk : keyV kd k = true) (b : Bool) (n : Nat) (w : World) : (Instr.checkKey b (n + 1) kt k).run P w = .ok () w := by
  rcases keyV_cases hk with ⟨j, m, rfl, rfl⟩ | ⟨s, rfl, rfl⟩ | ⟨c, rfl, rfl⟩ <;> simp [Instr.checkKey, run_underlying' hu]

/-- What was found: the place is one, the values stand to each other. -/
def FRel (P : Program) (μ : Map) (sh : Shp) : Option (Nat × Value) → Option (Nat × Value) → Prop
  | none, none => True
  | some (i, u), some (j, v) => i = j ∧ VRel P μ sh u v ∧ v.cells.all (·.oneCell') = true
  | _, _ => False

theorem findNow_rel {P : Program} {μ : Map} {sh : Shp} {kd : TypeDesc} {k : Value} (hk : keyV kd k = true) : ∀ (en : List MapEntry) (es : List (Value × Value)) (i : Nat), MRel P μ sh en es → (∀ e ∈ es, keyV kd e.1 = true) →
    ∃ r, Instr.findNow kd k en i = some r ∧ FRel P μ sh r (afind k es i)
  | [], [], i, _, _ => ⟨none, rfl, trivial⟩
  | x :: en, (q, v) :: es, i, h, ha => by
    obtain ⟨h1, h2, h3⟩ := h.2 0 x (q, v) rfl rfl
    have hq : keyV kd q = true := ha (q, v) (by simp)
    have hxq : x.key = q := keyV_rel h1 hq
    have ht : MRel P μ sh en es := ⟨by have := h.1; simpa using this, fun j y kv a b => h.2 (j + 1) y kv (by simpa using a) (by simpa using b)⟩
    obtain ⟨r, hr1, hr2⟩ := findNow_rel hk en es (i + 1) ht (fun e he => ha e (by simp [he]))
    have hs : Instr.sameNow kd k x.key = some (keyEq k q) := by
      rw [hxq]
      rcases keyV_cases hk with ⟨j, m, rfl, rfl⟩ | ⟨s, rfl, rfl⟩ | ⟨c, rfl, rfl⟩ <;> rcases keyV_cases hq with ⟨j', m', e1, rfl⟩ | ⟨s', e1, rfl⟩ | ⟨c', e1, rfl⟩ <;> cases e1
      all_goals simp [Instr.sameNow, keyEq]
    simp only [Instr.findNow, hs, afind]
    cases keyEq k q with
    | true => exact ⟨_, rfl, rfl, h2, h3⟩
    | false => exact ⟨r, hr1, hr2⟩
  | [], _ :: _, _, h, _ => by have := h.1; simp at this
  | _ :: _, [], _, h, _ => by have := h.1; simp at this

theorem map_block {P : Program} {μ : Map} {M : Store} {w : World} (hR : Rel P μ M w) {i : Nat} {l : Loc} {es : List (Value × Value)} (hi : μ i = some l) (hg : M.get i = some (.inr (.inl es))) :
    l.own = true ∧ ∃ en ck, w.heap[l.b]? = some (.map en ck) ∧ MRel P μ w.shape? en.toList es ∧ (getObj l.b).run P w = .ok (.map en ck) w := by
  have := hR.obj _ _ hi
  rw [hg] at this
  obtain ⟨h1, en, ck, h2, h3⟩ := this
  exact ⟨h1, en, ck, h2, h3, by simp [getObj, Sem.run, h2]⟩

theorem findKey_run {P : Program} {μ : Map} {sh : Shp} {kt : TypeId} {kd : TypeDesc} {k : Value} (hu : P.underlying kt = some kd) (hk : keyV kd k = true) {en : List MapEntry} {es : List (Value × Value)} (h : MRel P μ sh en es) (ha : ∀ e ∈ es, keyV kd e.1 = true) (w : World) :
    ∃ r, (Instr.findKey kt k en).run P w = .ok r w ∧ FRel P μ sh r (afind k es 0) := by
  obtain ⟨r, h1, h2⟩ := findNow_rel hk en es 0 h ha
  exact ⟨r, by simp [Instr.findKey, run_underlying' hu, h1], h2⟩

theorem alookup_run {P : Program} {μ : Map} {M : Store} {w : World} (hR : Rel P μ M w) {t : TypeId} {x k cx ck r : Value} {ok : Bool} (h : alookup P t x k ok M = some r) (hx : VRel P μ w.shape? cx x) (hk : VRel P μ w.shape? ck k) :
    ∃ cr, (Instr.lookup t cx ck ok).run P w = .ok cr w ∧ VRel P μ w.shape? cr r := by
  unfold alookup at h
  cases hu : P.underlying t with
  | none => rw [hu] at h; cases h
  | some d =>
  rw [hu] at h
  cases d <;> first | (cases h; done) | skip
  rename_i kt e
  simp only [] at h
  obtain ⟨kd, hkd, h⟩ := Option.bind_eq_some_iff.1 h
  split at h
  · cases h
  · rename_i hkv
    simp only [Bool.not_eq_true, Bool.not_eq_false'] at hkv
    obtain rfl := keyV_rel hk hkv
    obtain ⟨z, hz, h⟩ := Option.bind_eq_some_iff.1 h
    split at h
    · cases h
    · rename_i hzp
      simp only [Bool.not_eq_true, Bool.not_eq_false'] at hzp
      obtain ⟨es, hes, h⟩ := Option.bind_eq_some_iff.1 h
      split at h
      · cases h
      · rename_i hall
        simp only [Bool.not_eq_true, Bool.not_eq_false', List.all_eq_true] at hall
        injection h with h
        obtain ⟨hzD, hz1⟩ := plainZ (P := P) (μ := μ) (sh := w.shape?) hzp
        -- the entries
        have hent : (cx = .map none ∧ es = []) ∨ (∃ b en ck', cx = .map (some b) ∧ (getObj b).run P w = .ok (.map en ck') w ∧ MRel P μ w.shape? en.toList es) := by
          split at hes
          · obtain ⟨a, rfl, ha⟩ := hx.map
            cases a <;> first | exact ha.elim | skip
            injection hes with hes; subst hes
            exact .inl ⟨rfl, rfl⟩
          · obtain ⟨a, rfl, ha⟩ := hx.map
            cases a <;> first | exact ha.elim | skip
            obtain ⟨l, hl, rfl⟩ := ha
            split at hes
            · rename_i es' hg
              injection hes with hes; subst hes
              obtain ⟨_, en, ck', _, h3, h4⟩ := map_block hR hl hg
              exact .inr ⟨_, en, ck', rfl, h4, h3⟩
            · cases hes
          · cases hes
        have hck : ∀ b, (Instr.checkKey b 10000 kt ck).run P w = .ok () w := fun b => checkKey_run hkd hkv b 9999 w
        have lk : ∀ (cv va : Value) (b : Bool), DRel P μ w.shape? cv va → VRel P μ w.shape? (if ok then .tuple #[cv, .bool b] else cv) (if ok then .tuple #[va, .bool b] else va) := by
          intro cv va b hD
          split
          · exact LRel.cons hD (LRel.cons (show DRel P μ w.shape? (.bool b) (.bool b) from rfl) (LRel.nil _))
          · exact .of_D hD
        subst h
        rcases hent with ⟨rfl, rfl⟩ | ⟨b, en, ck', rfl, hget, hM⟩
        · obtain ⟨rf, h1, h2⟩ := findKey_run (en := []) hkd hkv (P := P) (μ := μ) (sh := w.shape?) ⟨rfl, fun i x kv a => by simp at a⟩ hall w
          cases rf with
          | some _ => exact h2.elim
          | none =>
            refine ⟨_, ?_, lk z z false hzD⟩
            simp only [Instr.lookup, Sem.run_bind, run_underlying' hu, Result.andThen_ok, Sem.run_pure, hck, h1, run_zeroValue' hz]
        · obtain ⟨rf, h1, h2⟩ := findKey_run hkd hkv hM hall w
          cases hf : afind ck es 0 with
          | none =>
            rw [hf] at h2
            cases rf <;> first | exact h2.elim | skip
            refine ⟨_, ?_, lk z z false hzD⟩
            simp only [Instr.lookup, Sem.run_bind, run_underlying' hu, Result.andThen_ok, Sem.run_pure, hget, hck, h1, run_zeroValue' hz]
          | some jv =>
            obtain ⟨j, v⟩ := jv
            rw [hf] at h2
            cases rf with
            | none => exact h2.elim
            | some iu =>
              obtain ⟨i, u⟩ := iu
              obtain ⟨_, h3, h4⟩ := h2
              refine ⟨_, ?_, lk u v true (h3.D h4)⟩
              simp only [Instr.lookup, Sem.run_bind, run_underlying' hu, Result.andThen_ok, Sem.run_pure, hget, hck, h1]

theorem wroteB_obj (w : World) (b : Nat) (o : Obj) (hb : ∃ en ck, w.heap[b]? = some (.map en ck)) (ho : ∃ en ck, o = .map en ck) : WroteB w { w with heap := w.heap.setIfInBounds b o } b := by
  obtain ⟨en, ck, hb⟩ := hb
  obtain ⟨en', ck', rfl⟩ := ho
  have hlt : b < w.heap.size := (Array.getElem?_eq_some_iff.1 hb).1
  refine ⟨fun k hk => ?_, by simp, ?_, rfl, rfl, rfl⟩
  · simp [Array.getElem?_setIfInBounds_ne (Ne.symm hk)]
  · simp only [World.shape?, hb]
    simp [hlt]

theorem keyEq_eq {kd : TypeDesc} {k q : Value} (hk : keyV kd k = true) (hq : keyV kd q = true) (h : keyEq k q = true) : k = q := by
  rcases keyV_cases hk with ⟨j, m, rfl, rfl⟩ | ⟨s, rfl, rfl⟩ | ⟨c, rfl, rfl⟩ <;> rcases keyV_cases hq with ⟨j', m', e1, rfl⟩ | ⟨s', e1, rfl⟩ | ⟨c', e1, rfl⟩ <;> cases e1
  all_goals (simp [keyEq, beq_bytes] at h; subst h; rfl)

theorem afind_key {kd : TypeDesc} {k : Value} (hk : keyV kd k = true) : ∀ (es : List (Value × Value)) (i0 i : Nat) (v : Value), (∀ e ∈ es, keyV kd e.1 = true) → afind k es i0 = some (i, v) → i0 ≤ i ∧ ∃ y, es[i - i0]? = some y ∧ y.1 = k
  | [], i0, i, v, _, h => by simp [afind] at h
  | (q, u) :: es, i0, i, v, ha, h => by
    simp only [afind] at h
    split at h
    · rename_i hq
      injection h with h; injection h with h h'; subst h
      exact ⟨Nat.le_refl _, (q, u), by simp, (keyEq_eq hk (ha (q, u) (by simp)) hq).symm⟩
    · obtain ⟨h1, y, h2, h3⟩ := afind_key hk es (i0 + 1) i v (fun e he => ha e (by simp [he])) h
      exact ⟨by omega, y, by rw [show i - i0 = (i - (i0 + 1)) + 1 by omega]; simpa using h2, h3⟩

theorem map_write {P : Program} {μ : Map} {M : Store} {w : World} (hR : Rel P μ M w) {r : Nat} {l : Loc} {es : List (Value × Value)} (hl : μ r = some l) (hg : M.get r = some (.inr (.inl es))) (en' : Array MapEntry) (ck' : Nat) (es' : List (Value × Value)) (hM : MRel P μ w.shape? en'.toList es') :
    Rel P μ (M.set r (some (.inr (.inl es')))) { w with heap := w.heap.setIfInBounds l.b (.map en' ck') } ∧ Step μ M w μ (M.set r (some (.inr (.inl es')))) { w with heap := w.heap.setIfInBounds l.b (.map en' ck') } := by
  obtain ⟨ho, en, ck, hb, _, _⟩ := map_block hR hl hg
  have hW := wroteB_obj w l.b (.map en' ck') ⟨_, _, hb⟩ ⟨_, _, rfl⟩
  have hlt : l.b < w.heap.size := (Array.getElem?_eq_some_iff.1 hb).1
  exact rel_set hR hl hg ho hW _ ⟨ho, en', ck', by simp [hlt], hM.1, fun i x kv a b => ⟨(hM.2 i x kv a b).1.mono (.refl _) hW.sle, (hM.2 i x kv a b).2.1.mono (.refl _) hW.sle, (hM.2 i x kv a b).2.2⟩⟩

theorem sameBits_self {kd : TypeDesc} {k : Value} (h : keyV kd k = true) (n : Nat) : Instr.sameBits n k k = true := by
  rcases keyV_cases h with ⟨j, m, rfl, rfl⟩ | ⟨s, rfl, rfl⟩ | ⟨c, rfl, rfl⟩ <;> cases n <;> simp [Instr.sameBits, beq_bytes]

theorem amapUpdate_run {P : Program} {μ : Map} {M M' : Store} {w : World} (hR : Rel P μ M w) {t : TypeId} {x k v cx ck cv : Value} (h : amapUpdate P t x k v M = some M') (hx : VRel P μ w.shape? cx x) (hk : VRel P μ w.shape? ck k) (hv : VRel P μ w.shape? cv v) :
    ∃ w', (Instr.mapUpdate t cx ck cv).run P w = .ok () w' ∧ Rel P μ M' w' ∧ Step μ M w μ M' w' := by
  unfold amapUpdate at h
  split at h
  · rename_i kt e r hu
    obtain ⟨kd, hkd, h⟩ := Option.bind_eq_some_iff.1 h
    split at h
    · cases h
    · rename_i hkv
      simp only [Bool.not_eq_true, Bool.not_eq_false'] at hkv
      obtain rfl := keyV_rel hk hkv
      split at h
      · cases h
      · rename_i hv1
        simp only [Bool.not_eq_true, Bool.not_eq_false'] at hv1
        split at h
        · rename_i es hg
          split at h
          · cases h
          · rename_i hall
            simp only [Bool.not_eq_true, Bool.not_eq_false', List.all_eq_true] at hall
            obtain ⟨a, rfl, ha⟩ := hx.map
            cases a <;> first | exact ha.elim | skip
            obtain ⟨l, hl, rfl⟩ := ha
            obtain ⟨ho, en, ckk, hb, hM, hget⟩ := map_block hR hl hg
            obtain ⟨rf, h1, h2⟩ := findKey_run hkd hkv hM hall w
            have hck : ∀ b, (Instr.checkKey b 10000 kt ck).run P w = .ok () w := fun b => checkKey_run hkd hkv b 9999 w
            have hset : ∀ o : Obj, (setObj l.b o).run P w = .ok () { w with heap := w.heap.setIfInBounds l.b o } := fun o => by simp [setObj, Sem.run, hb]
            have hnew : VRel P μ w.shape? ck ck ∧ VRel P μ w.shape? cv v ∧ v.cells.all (·.oneCell') = true := ⟨hk, hv, hv1⟩
            cases hf : afind ck es 0 with
            | none =>
              rw [hf] at h2 h
              cases rf <;> first | exact h2.elim | skip
              simp only [] at h
              injection h with h; subst h
              refine ⟨_, ?_, map_write hR hl hg (en.push { key := ck, val := cv, born := ckk }) (ckk + 1) _ ⟨?_, ?_⟩⟩
              · simp only [Instr.mapUpdate, Sem.run_bind, run_underlying' hu, Result.andThen_ok, hget, hck, h1, hset]
              · have := hM.1; simp only [Array.length_toList] at this; simp [this]
              · intro i x kv hx hkv'
                rw [Array.toList_push] at hx
                rw [List.getElem?_append] at hx hkv'
                have hlen := hM.1
                split at hx
                · rw [if_pos (by omega)] at hkv'
                  exact hM.2 i x kv hx hkv'
                · rename_i hge
                  rw [if_neg (by omega)] at hkv'
                  have : i - en.toList.length = 0 := by
                    rcases Nat.eq_zero_or_pos (i - en.toList.length) with h0 | h0
                    · exact h0
                    · rw [List.getElem?_eq_none (by simp only [List.length_cons, List.length_nil]; omega)] at hx; cases hx
                  rw [← hlen, this] at hkv'
                  rw [this] at hx
                  injection hx with hx; injection hkv' with hkv'
                  subst hx; subst hkv'
                  exact hnew
            | some jv =>
              obtain ⟨j, v0⟩ := jv
              rw [hf] at h2 h
              cases rf with
              | none => exact h2.elim
              | some iu =>
                obtain ⟨i, u⟩ := iu
                obtain ⟨rfl, h3, h4⟩ := h2
                simp only [] at h
                injection h with h; subst h
                obtain ⟨_, y, hy1, hy2⟩ := afind_key hkv es 0 i v0 hall hf
                rw [Nat.sub_zero] at hy1
                have hi : i < en.toList.length := by rw [hM.1]; exact (List.getElem?_eq_some_iff.1 hy1).1
                have hkey : en.toList[i].key = ck := by
                  have := (hM.2 i _ y (List.getElem?_eq_getElem hi) hy1).1
                  rw [hy2] at this
                  exact keyV_rel this hkv
                have hkts : (Instr.keyThatStays (((en[i]?).map (·.key)).getD ck) ck).run P w = .ok ck w := by
                  have e1 : ((en[i]?).map (·.key)).getD ck = ck := by
                    simp only [Array.length_toList] at hi
                    simp only [Array.getElem?_eq_getElem hi, Option.map_some, Option.getD_some]
                    simpa using hkey
                  rw [e1]
                  simp [Instr.keyThatStays, sameBits_self hkv]
                refine ⟨_, ?_, map_write hR hl hg (en.modify i fun e => { e with key := ck, val := cv }) ckk _ ⟨?_, ?_⟩⟩
                · simp only [Instr.mapUpdate, Sem.run_bind, run_underlying' hu, Result.andThen_ok, hget, hck, h1, hkts, hset]
                · have := hM.1; simp only [Array.length_toList] at this; simp [this]
                · intro j x kv hx hkv'
                  rw [Array.toList_modify, List.getElem?_modify] at hx
                  rw [List.getElem?_set] at hkv'
                  by_cases hij : i = j
                  · subst hij
                    rw [if_pos rfl] at hkv'
                    rw [if_pos (by rw [← hM.1]; exact hi)] at hkv'
                    injection hkv' with hkv'; subst hkv'
                    rw [List.getElem?_eq_getElem hi] at hx
                    simp only [if_true, Option.map_eq_map, Option.map_some, Option.some.injEq] at hx
                    subst hx
                    exact hnew
                  · rw [if_neg hij] at hkv'
                    simp only [if_neg hij, Option.map_eq_map, Option.map_id'] at hx
                    exact hM.2 j x kv hx hkv'
        · cases h
  · cases h

theorem adelete_run {P : Program} {μ : Map} {M M' : Store} {w : World} (hR : Rel P μ M w) {ts : Array TypeId} {t ty : TypeId} {x k cx ck : Value} (ht : ts[0]? = some t) (h : adelete P t x k M = some M') (hx : VRel P μ w.shape? cx x) (hk : VRel P μ w.shape? ck k) :
    ∃ w', (Builtin.delete_ ts ty #[cx, ck]).run P w = .ok (.tuple #[]) w' ∧ Rel P μ M' w' ∧ Step μ M w μ M' w' := by
  unfold adelete at h
  split at h
  · rename_i kt e r hu
    obtain ⟨kd, hkd, h⟩ := Option.bind_eq_some_iff.1 h
    split at h
    · cases h
    · rename_i hkv
      simp only [Bool.not_eq_true, Bool.not_eq_false'] at hkv
      obtain rfl := keyV_rel hk hkv
      split at h
      · rename_i es hg
        split at h
        · cases h
        · rename_i hall
          simp only [Bool.not_eq_true, Bool.not_eq_false', List.all_eq_true] at hall
          obtain ⟨a, rfl, ha⟩ := hx.map
          cases a <;> first | exact ha.elim | skip
          obtain ⟨l, hl, rfl⟩ := ha
          obtain ⟨ho, en, ckk, hb, hM, hget⟩ := map_block hR hl hg
          obtain ⟨rf, h1, h2⟩ := findKey_run hkd hkv hM hall w
          have hck : ∀ b, (Instr.checkKey b 10000 kt ck).run P w = .ok () w := fun b => checkKey_run hkd hkv b 9999 w
          have hset : ∀ o : Obj, (setObj l.b o).run P w = .ok () { w with heap := w.heap.setIfInBounds l.b o } := fun o => by simp [setObj, Sem.run, hb]
          cases hf : afind ck es 0 with
          | none =>
            rw [hf] at h2 h
            cases rf <;> first | exact h2.elim | skip
            simp only [] at h
            injection h with h; subst h
            refine ⟨_, ?_, map_write hR hl hg en ckk _ hM⟩
            simp only [Builtin.delete_, ht, List.getElem?_toArray, List.getElem?_cons_zero, List.getElem?_cons_succ, Sem.run_bind, run_underlying' hu, Result.andThen_ok, hget, hck, h1, hset, Sem.run_pure]
          | some jv =>
            obtain ⟨j, v0⟩ := jv
            rw [hf] at h2 h
            cases rf with
            | none => exact h2.elim
            | some iu =>
              obtain ⟨i, u⟩ := iu
              obtain ⟨rfl, h3, h4⟩ := h2
              simp only [] at h
              injection h with h; subst h
              obtain ⟨_, y, hy1, _⟩ := afind_key hkv es 0 i v0 hall hf
              rw [Nat.sub_zero] at hy1
              have hi : i < es.length := (List.getElem?_eq_some_iff.1 hy1).1
              refine ⟨_, ?_, map_write hR hl hg (en.eraseIdxIfInBounds i) ckk _ ⟨?_, ?_⟩⟩
              · simp only [Builtin.delete_, ht, List.getElem?_toArray, List.getElem?_cons_zero, List.getElem?_cons_succ, Sem.run_bind, run_underlying' hu, Result.andThen_ok, hget, hck, h1, hset, Sem.run_pure]
              · have := hM.1
                simp [List.length_eraseIdx, this]
              · intro j x kv hx hkv'
                simp only [Array.toList_eraseIdxIfInBounds] at hx
                rw [List.getElem?_eraseIdx] at hx hkv'
                split at hx
                · rename_i hlt; rw [if_pos hlt] at hkv'; exact hM.2 j x kv hx hkv'
                · rename_i hlt; rw [if_neg hlt] at hkv'; exact hM.2 _ x kv hx hkv'
      · cases h
  · cases h

end Go.Ab
