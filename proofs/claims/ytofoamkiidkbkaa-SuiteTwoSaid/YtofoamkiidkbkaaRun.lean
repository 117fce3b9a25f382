/- A plan of a region that draws its order is sound. No statement of the seat is proved in this text. -/
import Derived.Test.YtofoamkiidkbkaaPlan
set_option linter.unusedSimpArgs false
set_option linter.unusedVariables false
set_option linter.unusedSectionVars false
set_option linter.unnecessarySimpa false
namespace Go.Lk

theorem quiet_all {P : Program} {M : Nat → Prop} {w0 : World} {x : XOp} {K : Env → Prop} {e : Env} (hq : quietX x = true) (h : sq P M x K e w0) :
    ∃ d r, K ((d, r) :: e) ∧ ∀ w, (Fr M w0 w ∨ ((∀ d y, x ≠ .ld d y) ∧ (∀ d y m, x ≠ .lda d y m) ∧ ∀ d y, x ≠ .b2s d y)) → sx P x (fun e' _ => e' = (d, r) :: e) e w := by
  cases x <;> simp [quietX] at hq
  case ld d y =>
    obtain ⟨u, hu, h⟩ := B_out h
    cases u <;> (try (exact (show False from h).elim))
    rename_i ad
    cases ad <;> (try (exact (show False from h).elim))
    obtain ⟨hM, h⟩ := h
    obtain ⟨v, hv, hk⟩ := B_out h
    refine ⟨d, v, hk, fun w hw => ?_⟩
    rcases hw with hw | hw
    · simp [sx, hu, B, hw.cell hv hM]
    · exact absurd rfl (hw.1 d y)
  case lda d y m =>
    obtain ⟨u, hu, h⟩ := B_out h
    cases u <;> (try (exact (show False from h).elim))
    rename_i ad
    cases ad <;> (try (exact (show False from h).elim))
    obtain ⟨hM, cs, hl, hcs, hk⟩ := h
    refine ⟨d, _, hk, fun w hw => ?_⟩
    rcases hw with hw | hw
    · simp only [sx, hu, B, LdaW]
      refine ⟨cs, hl, fun i hi => ?_, rfl⟩
      have h1 := hcs i hi
      rw [List.getElem?_eq_getElem (by omega)] at h1 ⊢
      exact hw.cell h1 (by rw [cells_add_lt]; exact hM)
    · exact absurd rfl (hw.2.1 d y m)
  case b2s d y =>
    obtain ⟨u, hu, hM, l, hl, hk⟩ := B_out (show B _ _ from h)
    refine ⟨d, _, hk, fun w hw => ?_⟩
    rcases hw with hw | hw
    · simp only [sx, hu, B, B2sW]
      refine ⟨l, ?_, rfl⟩
      cases u <;> (try exact hl)
      rename_i ad m c
      cases ad with
      | none => exact hl
      | some ad => exact ⟨hl.1, fun i hi => hw.cell (hl.2 i hi) (by rw [cells_add_lt]; exact hM ad.block rfl)⟩
    · exact absurd rfl (hw.2.2 d y)
  case pick d c y z =>
    obtain ⟨u, hu, h⟩ := B_out (show B _ _ from h)
    obtain ⟨b, hb, h⟩ := B_out h
    obtain ⟨v, hv, hk⟩ := B_out h
    exact ⟨d, v, hk, fun w _ => by simp only [sx, hu, hb, hv, B]⟩
  case sl d y lo hi mx sz =>
    obtain ⟨u, hu, h⟩ := B_out (show B _ _ from h)
    cases u <;> (try (exact (show False from h).elim))
    obtain ⟨m, hm, h⟩ := B_out (show B _ _ from h)
    obtain ⟨hh, hh', h⟩ := B_out h
    obtain ⟨l, hl, hk⟩ := B_out h
    exact ⟨d, _, hk, fun w _ => by simp [sx, hu, hm, hh', hl, B]⟩
  case sls d y lo hi =>
    obtain ⟨u, hu, h⟩ := B_out (show B _ _ from h)
    cases u <;> (try (exact (show False from h).elim))
    obtain ⟨hh, hh', h⟩ := B_out (show B _ _ from h)
    obtain ⟨l, hl, hk⟩ := B_out h
    exact ⟨d, _, hk, fun w _ => by simp [sx, hu, hh', hl, B]⟩
  case sla d y lo hi mx m sz =>
    obtain ⟨u, hu, h⟩ := B_out (show B _ _ from h)
    cases u <;> (try (exact (show False from h).elim))
    rename_i ad
    cases ad <;> (try (exact (show False from h).elim))
    obtain ⟨mm, hm, h⟩ := B_out (show B _ _ from h)
    obtain ⟨hh, hh', h⟩ := B_out h
    obtain ⟨l, hl, hk⟩ := B_out h
    exact ⟨d, _, hk, fun w _ => by simp [sx, hu, hm, hh', hl, B]⟩
  case eqb neg d y z =>
    obtain ⟨u, hu, h⟩ := B_out (show B _ _ from h)
    obtain ⟨p, hp, h⟩ := B_out h
    obtain ⟨v, hv, h⟩ := B_out h
    obtain ⟨q, hq, hk⟩ := B_out h
    exact ⟨d, _, hk, fun w _ => by simp only [sx, hu, hv, hp, hq, B]⟩
  case mv d y =>
    obtain ⟨u, hu, hk⟩ := B_out (show B _ _ from h)
    exact ⟨d, _, hk, fun w _ => by simp only [sx, hu, B]⟩
  case mki d t y =>
    obtain ⟨u, hu, hk⟩ := B_out (show B _ _ from h)
    exact ⟨d, _, hk, fun w _ => by simp only [sx, hu, B]⟩
  case bld d tm =>
    obtain ⟨u, hu, h1, hk⟩ := B_out (show B _ _ from h)
    exact ⟨d, _, hk, fun w _ => by simp only [sx, hu, B, AllW, h1, and_self]⟩
  case bin op d y z =>
    obtain ⟨u, hu, h⟩ := B_out (show B _ _ from h)
    obtain ⟨v, hv, h⟩ := B_out h
    obtain ⟨r, hr, hk⟩ := B_out h
    exact ⟨d, r, hk, fun w _ => by simp only [sx, hu, hv, hr, B]⟩
  case ix d y z s =>
    obtain ⟨u, hu, h⟩ := B_out (show B _ _ from h)
    obtain ⟨v, hv, h⟩ := B_out h
    obtain ⟨r, hr, hk⟩ := B_out h
    exact ⟨d, r, hk, fun w _ => by simp only [sx, hu, hv, hr, B]⟩
  case ixa d y z m s =>
    obtain ⟨u, hu, h⟩ := B_out (show B _ _ from h)
    obtain ⟨v, hv, h⟩ := B_out h
    obtain ⟨r, hr, hk⟩ := B_out h
    exact ⟨d, r, hk, fun w _ => by simp only [sx, hu, hv, hr, B]⟩
  case idx d y z m s b =>
    obtain ⟨u, hu, h⟩ := B_out (show B _ _ from h)
    obtain ⟨v, hv, h⟩ := B_out h
    obtain ⟨r, hr, hk⟩ := B_out h
    exact ⟨d, r, hk, fun w _ => by simp only [sx, hu, hv, hr, B]⟩
  case ids d y z =>
    obtain ⟨u, hu, h⟩ := B_out (show B _ _ from h)
    obtain ⟨v, hv, h⟩ := B_out h
    obtain ⟨r, hr, hk⟩ := B_out h
    exact ⟨d, r, hk, fun w _ => by simp only [sx, hu, hv, hr, B]⟩
  case mkf d fn y z =>
    obtain ⟨u, hu, h⟩ := B_out (show B _ _ from h)
    obtain ⟨v, hv, hk⟩ := B_out h
    exact ⟨d, _, hk, fun w _ => by simp only [sx, hu, hv, B]⟩
  case un op d y =>
    obtain ⟨u, hu, h⟩ := B_out (show B _ _ from h)
    obtain ⟨r, hr, hk⟩ := B_out h
    exact ⟨d, r, hk, fun w _ => by simp only [sx, hu, hr, B]⟩
  case cvi k d y =>
    obtain ⟨u, hu, h⟩ := B_out (show B _ _ from h)
    obtain ⟨r, hr, hk⟩ := B_out h
    exact ⟨d, r, hk, fun w _ => by simp only [sx, hu, hr, B]⟩
  case ext d y k =>
    obtain ⟨u, hu, h⟩ := B_out (show B _ _ from h)
    obtain ⟨r, hr, hk⟩ := B_out h
    exact ⟨d, r, hk, fun w _ => by simp only [sx, hu, hr, B]⟩
  case fld d y o s b =>
    obtain ⟨u, hu, h⟩ := B_out (show B _ _ from h)
    obtain ⟨r, hr, hk⟩ := B_out h
    exact ⟨d, r, hk, fun w _ => by simp only [sx, hu, hr, B]⟩
  case fa d y o =>
    obtain ⟨u, hu, h⟩ := B_out (show B _ _ from h)
    obtain ⟨r, hr, hk⟩ := B_out h
    exact ⟨d, r, hk, fun w _ => by simp only [sx, hu, hr, B]⟩
  case nc d y =>
    obtain ⟨u, hu, h⟩ := B_out (show B _ _ from h)
    obtain ⟨r, hr, hk⟩ := B_out h
    exact ⟨d, r, hk, fun w _ => by simp only [sx, hu, hr, B]⟩
  case len d y =>
    obtain ⟨u, hu, h⟩ := B_out (show B _ _ from h)
    obtain ⟨r, hr, hk⟩ := B_out h
    exact ⟨d, r, hk, fun w _ => by simp only [sx, hu, hr, B]⟩
  case lens d y =>
    obtain ⟨u, hu, h⟩ := B_out (show B _ _ from h)
    obtain ⟨r, hr, hk⟩ := B_out h
    exact ⟨d, r, hk, fun w _ => by simp only [sx, hu, hr, B]⟩

theorem load_of_ld {P : Program} {n : Nat} {o : Oper} (h : (∃ d y, cop P n o = .ld d y) ∨ (∃ d y m, cop P n o = .lda d y m) ∨ ∃ d y, cop P n o = .b2s d y) : isLoad o = true := by
  obtain ⟨dst, op, t, pos, af, g⟩ := o
  unfold cop at h
  cases dst with
  | none =>
    simp only [] at h
    cases op <;> simp only [copN] at h <;> (try (simp at h; done))
    · split at h <;> simp at h
    · split at h <;> (try (simp at h; done))
      split at h <;> simp at h
  | some d =>
    simp only [] at h
    split at h
    · cases op <;> simp only [copD, copB, isLoad] at h ⊢ <;> (try rfl)
      all_goals (exfalso; revert h; (repeat' split) <;> simp)
    · simp at h

theorem sq_sound {P : Program} {n : Nat} {ops : Array Oper} {o : Oper} {M : Nat → Prop} {w0 : World} {K : Env → Prop} {a : Act} {e : Env} (ha : Agr n a e) (hqi : quietI (copI P n ops o) = true) (h : sqi P M (copI P n ops o) K e w0) :
    ∃ v e', QY P ops (fun w => isLoad o = true → Fr M w0 w) o v a ∧ Agr n (a.put o.dst v) e' ∧ K e' := by
  have core : ∀ hw : Region.wanted o (yielded ops a.tmps) = true, quietX (cop P n o) = true → sq P M (cop P n o) K e w0 →
      ∃ v e', QY P ops (fun w => isLoad o = true → Fr M w0 w) o v a ∧ Agr n (a.put o.dst v) e' ∧ K e' := by
    intro hw hq hs
    obtain ⟨d, r, hk, hall⟩ := quiet_all hq hs
    have hx : ∃ d', o.dst = some d' ∧ d' < n ∧ copD P d' o.op = some (cop P n o) := by
      unfold cop at hq ⊢
      cases hd : o.dst with
      | none =>
        rw [hd] at hq
        simp only [] at hq
        exfalso
        cases hc : copN P o.op with
        | none => rw [hc] at hq; simp [quietX] at hq
        | some x =>
          rw [hc] at hq
          cases ho : o.op <;> rw [ho] at hc <;> simp only [copN] at hc <;> (try (simp at hc; done))
          · split at hc <;> (try (simp at hc; done)) <;> (injection hc with hc; subst hc; simp [quietX] at hq)
          · split at hc <;> (try (simp at hc; done))
            split at hc <;> (try (simp at hc; done))
            injection hc with hc; subst hc; simp [quietX] at hq
      | some d' =>
        rw [hd] at hq
        simp only [] at hq ⊢
        split at hq
        · rename_i hlt
          cases hc : copD P d' o.op with
          | none => rw [hc] at hq; simp [quietX] at hq
          | some x => exact ⟨d', rfl, hlt, by rw [if_pos hlt]; exact hc⟩
        · simp [quietX] at hq
    obtain ⟨d', hd', hlt, hc⟩ := hx
    have hnb : (∀ t y, cop P n o ≠ .box d' t y) ∧ ∀ f l, cop P n o ≠ .call (some d') f l :=
      ⟨fun t y hh => by rw [hh] at hq; simp [quietX] at hq, fun f l hh => by rw [hh] at hq; simp [quietX] at hq⟩
    have hrun : ∀ w, (isLoad o = true → Fr M w0 w) → (execOp a.eval o).run P w = .ok (.value r) w ∧ d = d' := by
      intro w hC
      have hs := hall w (by
        by_cases hl : isLoad o = true
        · exact .inl (hC hl)
        · exact .inr ⟨fun d y hh => hl (load_of_ld (.inl ⟨d, y, hh⟩)), fun d y m hh => hl (load_of_ld (.inr (.inl ⟨d, y, m, hh⟩))), fun d y hh => hl (load_of_ld (.inr (.inr ⟨d, y, hh⟩)))⟩)
      obtain ⟨dst, op, t, pos, af, g⟩ := o
      subst hd'
      obtain ⟨r', hr', heq⟩ := copD_quiet (t := t) (pos := pos) (af := af) (g := g) hc hnb ha hlt hs
      injection heq with h1 h2
      injection h1 with h3 h4
      subst h3; subst h4
      exact ⟨hr', rfl⟩
    refine ⟨r, (d, r) :: e, .inl ⟨hw, fun w hC => (hrun w hC).1⟩, ?_, hk⟩
    have := (hrun w0 (fun _ => Fr.refl w0)).2
    subst this
    rw [hd']
    exact ha.put hlt r
  unfold copI at h hqi
  cases hg : o.guard with
  | none =>
    rw [hg] at h hqi
    exact core (by simp [Region.wanted, hg]) hqi h
  | some p =>
    obtain ⟨j, want⟩ := p
    rw [hg] at h hqi
    simp only [] at h hqi
    split at h
    · rename_i s hj hd
      rw [hj, hd] at hqi
      have hq : quietX (cop P n o) = true := hqi
      obtain ⟨v, hv, h⟩ := B_out h
      have hwant := guard_sound (P := P) ha hg hj hv
      by_cases hb : boolv v = some want
      · rw [if_pos hb] at h
        exact core (by rw [hwant]; simpa using hb) hq h
      · rw [if_neg hb] at h
        refine ⟨undef, _, .inr ⟨by rw [hwant]; simpa using hb, rfl⟩, ha.bnd (fun k hk => ?_) undef, h⟩
        rw [hk] at hd
        simpa using hd
    · exact (show False from h).elim

section
variable {P : Program} {n : Nat} {ops : Array Oper} {early : Nat} {Q : Exit → Env → World → Prop} {M : Nat → Prop}

theorem edge_bit {o : Oper} {i : Nat} : (edgeMask o).testBit i = true ↔ ∃ e ∈ o.after, Region.binds .any e = true ∧ e.on = i := by
  have : ∀ (l : List Edge) (s : Nat), (l.foldl (fun s e => if Region.binds .any e then s ||| 2 ^ e.on else s) s).testBit i = true ↔ s.testBit i = true ∨ ∃ e ∈ l, Region.binds .any e = true ∧ e.on = i := by
    intro l
    induction l with
    | nil => intro s; simp
    | cons e r ih =>
      intro s
      rw [List.foldl_cons, ih]
      by_cases hb : Region.binds .any e = true
      · rw [if_pos hb, Nat.testBit_or, Nat.testBit_two_pow]
        simp only [Bool.or_eq_true, decide_eq_true_eq, List.mem_cons, exists_eq_or_imp, hb, true_and]
        constructor
        · rintro ((h | h) | h)
          · exact .inl h
          · exact .inr (.inl h)
          · exact .inr (.inr h)
        · rintro (h | h | h)
          · exact .inl (.inl h)
          · exact .inl (.inr h)
          · exact .inr h
      · rw [if_neg hb]
        simp [hb]
  unfold edgeMask
  rw [this]
  simp

/-- the listed ones, as bits -/
def Bits (ops : Array Oper) (listed : Array Bool) (m : Nat) : Prop :=
  listed.size = ops.size ∧ ∀ i, i < ops.size → listed.getD i false = m.testBit i

theorem Bits.at {ops : Array Oper} {listed : Array Bool} {m : Nat} (h : Bits ops listed m) {i : Nat} (hi : i < ops.size) (d : Bool) : listed.getD i d = m.testBit i := by
  rw [← h.2 i hi]
  have : i < listed.size := by rw [h.1]; exact hi
  simp [this]

theorem Bits.add {ops : Array Oper} {listed : Array Bool} {m : Nat} (h : Bits ops listed m) (i : Nat) : Bits ops (listed.setIfInBounds i true) (m ||| 2 ^ i) := by
  refine ⟨by simp [h.1], fun j hj => ?_⟩
  rw [Nat.testBit_or, Nat.testBit_two_pow]
  by_cases hij : i = j
  · subst hij
    have : i < listed.size := by rw [h.1]; exact hj
    simp [this]
  · rw [getD_set_ne false hij, h.2 j hj]
    simp [hij]

theorem rd_mem {m : Nat} : ∀ (ks : List Nat) (s i : Nat), i ∈ rd m s ks ↔ ∃ j k, ks[j]? = some k ∧ i = s + j ∧ m.testBit i = false ∧ k &&& m = k
  | [], s, i => by simp [rd]
  | k :: ks, s, i => by
    have ih := rd_mem (m := m) ks (s + 1) i
    have key : (∃ j k', (k :: ks)[j]? = some k' ∧ i = s + j ∧ m.testBit i = false ∧ k' &&& m = k') ↔ (i = s ∧ m.testBit i = false ∧ k &&& m = k) ∨ i ∈ rd m (s + 1) ks := by
      rw [ih]
      constructor
      · rintro ⟨j, k', h1, h2, h3, h4⟩
        cases j with
        | zero => simp at h1; subst h1; exact .inl ⟨by omega, h3, h4⟩
        | succ j => exact .inr ⟨j, k', by simpa using h1, by omega, h3, h4⟩
      · rintro (⟨h2, h3, h4⟩ | ⟨j, k', h1, h2, h3, h4⟩)
        · exact ⟨0, k, rfl, by omega, h3, h4⟩
        · exact ⟨j + 1, k', by simpa using h1, by omega, h3, h4⟩
    rw [key]
    simp only [rd]
    by_cases hc : (!m.testBit s && (k &&& m == k)) = true
    · rw [if_pos hc]
      simp only [Bool.and_eq_true, Bool.not_eq_true', beq_iff_eq] at hc
      rw [List.mem_cons]
      constructor
      · rintro (h | h)
        · subst h; exact .inl ⟨rfl, hc.1, hc.2⟩
        · exact .inr h
      · rintro (h | h)
        · exact .inl h.1
        · exact .inr h
    · rw [if_neg hc]
      simp only [Bool.and_eq_true, Bool.not_eq_true', beq_iff_eq] at hc
      constructor
      · intro h; exact .inr h
      · rintro (⟨h1, h2, h3⟩ | h)
        · subst h1; exact absurd ⟨h2, h3⟩ hc
        · exact h

theorem rd_ready {ops : Array Oper} {listed : Array Bool} {m : Nat} (hb : Bits ops listed m) (i : Nat) (he : ∀ (i : Nat) (o : Oper), ops[i]? = some o → ∀ e ∈ o.after, Region.binds .any e = true → e.on < ops.size) :
    i ∈ rd m 0 (ops.toList.map edgeMask) ↔ i ∈ Region.ready .any ops listed := by
  rw [rd_mem, mem_ready]
  constructor
  · rintro ⟨j, k, h1, h2, h3, h4⟩
    rw [Nat.zero_add] at h2
    subst h2
    rw [List.getElem?_map] at h1
    obtain ⟨o, ho, hk⟩ := Option.map_eq_some_iff.1 h1
    have ho' : ops[i]? = some o := by simpa using ho
    have hlt : i < ops.size := (Array.getElem?_eq_some_iff.1 ho').1
    refine ⟨by rw [hb.at hlt]; exact h3, o, ho', fun e hee hbi => ?_⟩
    have hbit : k.testBit e.on = true := by rw [← hk]; exact edge_bit.2 ⟨e, hee, hbi, rfl⟩
    rw [← h4, Nat.testBit_and] at hbit
    simp only [Bool.and_eq_true] at hbit
    rw [hb.2 e.on (he i o ho' e hee hbi)]
    exact hbit.2
  · rintro ⟨h1, o, ho, h2⟩
    have hlt : i < ops.size := (Array.getElem?_eq_some_iff.1 ho).1
    rw [hb.at hlt] at h1
    refine ⟨i, edgeMask o, by rw [List.getElem?_map]; simp [ho], by omega, h1, ?_⟩
    apply Nat.eq_of_testBit_eq
    intro t
    rw [Nat.testBit_and]
    cases ht : (edgeMask o).testBit t with
    | false => simp
    | true =>
      obtain ⟨e, hee, hbi, hon⟩ := edge_bit.1 ht
      have := h2 e hee hbi
      rw [hon] at this
      have hlt' : t < ops.size := by rw [← hon]; exact he i o ho e hee hbi
      rw [hb.2 t hlt'] at this
      simp [this]

theorem allOk_apart {ops : Array Oper} (h : allOk ops = true) {i j : Nat} {oi oj : Oper} (hi : ops[i]? = some oi) (hj : ops[j]? = some oj) (hij : i ≠ j) :
    (edgeMask oj).testBit i = true ∨ (edgeMask oi).testBit j = true ∨ oi.apart ops oj = true := by
  unfold allOk at h
  simp only [List.all_eq_true] at h
  have hm : ∀ {i : Nat} {o : Oper}, ops[i]? = some o → (i, o, edgeMask o) ∈ ops.toList.zipIdx.map (fun (x : Oper × Nat) => (x.2, x.1, edgeMask x.1)) := by
    intro i o ho
    rw [List.mem_map]
    exact ⟨(o, i), by rw [List.mem_zipIdx_iff_getElem?]; simpa using ho, rfl⟩
  have h1 := h (i, oi, edgeMask oi) (hm hi) (j, oj, edgeMask oj) (hm hj)
  simp only [Bool.or_eq_true, beq_iff_eq] at h1
  rcases h1 with ((h1 | h1) | h1) | h1
  · exact absurd h1 hij
  · exact .inl h1
  · exact .inr (.inl h1)
  · exact .inr (.inr h1)

/-- All edges lead to operations of the region. -/
def inside (ops : Array Oper) : Bool := ops.toList.all fun o => o.after.toList.all fun e => decide (e.on < ops.size)

theorem inside_spec {ops : Array Oper} (h : inside ops = true) (i : Nat) (o : Oper) (ho : ops[i]? = some o) (e : Edge) (he : e ∈ o.after) : e.on < ops.size := by
  unfold inside at h
  simp only [List.all_eq_true, decide_eq_true_eq] at h
  exact h o (Array.mem_toList_iff.2 (Array.mem_of_getElem? ho)) e (Array.mem_toList_iff.2 he)

theorem runX_sound (hsel : Region.noSelect ops = true) (hok : allOk ops = true) (hin : inside ops = true) : ∀ (fuel : Nat) (m : Nat) (listed : Array Bool) (a : Act) (e : Env) (w : World), Bits ops listed m → Clo ops listed → Agr n a e →
    runX P Q M (toX P n ops (befs ops.toList) (reads P n ops.toList 0) (mk (ops.toList.map edgeMask) early fuel m)) e w → wK P ops (Qn n Q) M (keepM (befs ops.toList) (reads P n ops.toList 0)) fuel listed a w := by
  have hrr : ∀ {listed : Array Bool} {m : Nat}, Bits ops listed m → ∀ i, i ∈ rd m 0 (ops.toList.map edgeMask) ↔ i ∈ Region.ready .any ops listed :=
    fun hb i => rd_ready hb i (fun i o ho e he _ => inside_spec hin i o ho e he)
  have hnil : ∀ {listed : Array Bool} {m : Nat}, Bits ops listed m → rd m 0 (ops.toList.map edgeMask) = [] → Region.ready .any ops listed = [] := by
    intro listed m hb hr
    cases hc : Region.ready .any ops listed with
    | nil => rfl
    | cons i r =>
      have : i ∈ rd m 0 (ops.toList.map edgeMask) := (hrr hb i).2 (by rw [hc]; simp)
      rw [hr] at this
      cases this
  intro fuel
  induction fuel with
  | zero =>
    intro m listed a e w hbits _ ha h
    unfold mk at h
    cases hr : rd m 0 (ops.toList.map edgeMask) with
    | nil => rw [hr] at h; exact ⟨hnil hbits hr, e, ha, h⟩
    | cons r rs => rw [hr] at h; exact (show False from h).elim
  | succ fuel ih =>
    intro m listed a e w hbits hclo ha h
    unfold mk at h
    cases hr : rd m 0 (ops.toList.map edgeMask) with
    | nil =>
      rw [hr] at h
      exact ⟨fun _ => ⟨e, ha, h⟩, by rw [hnil hbits hr]; simp⟩
    | cons r rs =>
      rw [hr] at h
      simp only [] at h
      split at h
      · rename_i i hf
        have hmem : i ∈ r :: rs := List.mem_of_find?_eq_some hf
        rw [← hr] at hmem
        have hmem := (hrr hbits i).1 hmem
        obtain ⟨hun, o, ho, hall⟩ := mem_ready.1 hmem
        simp only [toX, ho] at h
        split at h
        · rename_i hqi
          obtain ⟨v, e', hy, ha', hk⟩ := sq_sound ha hqi (show sqi P M (copI P n ops o) _ e w from h)
          refine wK_take (C := fun w' => isLoad o = true → Fr M w w') ho (Region.noSelect_spec hsel) ?_ fuel listed a w hclo ?_ hmem hy (fun _ => Fr.refl w) (ih _ _ _ _ _ (hbits.add i) (hclo.add hmem) ha' hk)
          · intro j hji hbit hbit' w w' hC hkeep hl
            exact (hC hl).trans (hkeep (keep_of ho hl (fun hh => hji hh.symm) hbit hbit'))
          · intro j oj hoj hji hjun hno
            rcases allOk_apart hok ho hoj (fun hh => hji hh.symm) with h1 | h1 | h1
            · obtain ⟨ed, hed, hbi, hon⟩ := edge_bit.1 h1
              exact absurd hon (hno ed hed hbi)
            · obtain ⟨ed, hed, hbi, hon⟩ := edge_bit.1 h1
              have h2 := hall ed hed hbi
              rw [hon] at h2
              have hlt : j < ops.size := (Array.getElem?_eq_some_iff.1 hoj).1
              rw [hbits.at hlt] at h2 hjun
              rw [h2] at hjun
              cases hjun
            · exact h1
        · exact (show False from h).elim
      · have hne : Region.ready .any ops listed ≠ [] := fun h0 => by
          have : r ∈ Region.ready .any ops listed := (hrr hbits r).1 (by rw [hr]; simp)
          rw [h0] at this
          cases this
        refine ⟨fun h0 => absurd h0 hne, fun i0 hi0 => ?_⟩
        replace hi0 := (hrr hbits i0).2 hi0
        rw [hr] at hi0
        have hall : ∀ i ∈ r :: rs, i ∈ Region.ready .any ops listed := fun i hi => (hrr hbits i).1 (by rw [hr]; exact hi)
        clear hr hne
        revert i0
        generalize r :: rs = l at h hall
        intro i0
        revert i0
        induction l with
        | nil => intro i hi; cases hi
        | cons j l ihl =>
          simp only [List.foldr_cons] at h
          obtain ⟨hjun, oj, hoj, hjall⟩ := mem_ready.1 (hall j (by simp))
          simp only [toX, hoj, runX, StepW, KeepW] at h
          intro i hi
          rcases List.mem_cons.1 hi with rfl | hi
          · unfold xopi
            rw [hoj]
            refine xop_mono ?_ (sxi_sound (fun cs b => Region.noSelect_spec hsel i oj cs b hoj) ha h.1)
            intro a' w' ⟨e', ha', hk1, hk2⟩
            exact ⟨hk1, ih _ _ _ _ _ (hbits.add i) (hclo.add (hall i (by simp))) ha' hk2⟩
          · exact ihl h.2 (fun i hi => hall i (by simp [hi])) i hi

theorem runY_sound (hsel : Region.noSelect ops = true) (hok : allOk ops = true) (hin : inside ops = true) : ∀ (fuel : Nat) (M : Nat → Prop) (m : Nat) (listed : Array Bool) (a : Act) (e : Env) (w : World), Bits ops listed m → Clo ops listed → Agr n a e →
    runY P Q (toX P n ops (befs ops.toList) (reads P n ops.toList 0) (mk (ops.toList.map edgeMask) early fuel m)) M e w → wK P ops (Qn n Q) M (keepM (befs ops.toList) (reads P n ops.toList 0)) fuel listed a w := by
  have hrr : ∀ {listed : Array Bool} {m : Nat}, Bits ops listed m → ∀ i, i ∈ rd m 0 (ops.toList.map edgeMask) ↔ i ∈ Region.ready .any ops listed :=
    fun hb i => rd_ready hb i (fun i o ho e he _ => inside_spec hin i o ho e he)
  have hnil : ∀ {listed : Array Bool} {m : Nat}, Bits ops listed m → rd m 0 (ops.toList.map edgeMask) = [] → Region.ready .any ops listed = [] := by
    intro listed m hb hr
    cases hc : Region.ready .any ops listed with
    | nil => rfl
    | cons i r =>
      have : i ∈ rd m 0 (ops.toList.map edgeMask) := (hrr hb i).2 (by rw [hc]; simp)
      rw [hr] at this
      cases this
  intro fuel
  induction fuel with
  | zero =>
    intro M m listed a e w hbits _ ha h
    unfold mk at h
    cases hr : rd m 0 (ops.toList.map edgeMask) with
    | nil => rw [hr] at h; exact ⟨hnil hbits hr, e, ha, h⟩
    | cons r rs => rw [hr] at h; exact (show False from h).elim
  | succ fuel ih =>
    intro M m listed a e w hbits hclo ha h
    unfold mk at h
    cases hr : rd m 0 (ops.toList.map edgeMask) with
    | nil =>
      rw [hr] at h
      exact ⟨fun _ => ⟨e, ha, h⟩, by rw [hnil hbits hr]; simp⟩
    | cons r rs =>
      rw [hr] at h
      simp only [] at h
      split at h
      · rename_i i hf
        have hmem : i ∈ r :: rs := List.mem_of_find?_eq_some hf
        rw [← hr] at hmem
        have hmem := (hrr hbits i).1 hmem
        obtain ⟨hun, o, ho, hall⟩ := mem_ready.1 hmem
        simp only [toX, ho] at h
        split at h
        · rename_i hqi
          obtain ⟨v, e', hy, ha', hk⟩ := sq_sound ha hqi (show sqi P M (copI P n ops o) _ e w from h)
          refine wK_take (C := fun w' => isLoad o = true → Fr M w w') ho (Region.noSelect_spec hsel) ?_ fuel listed a w hclo ?_ hmem hy (fun _ => Fr.refl w) (ih _ _ _ _ _ _ (hbits.add i) (hclo.add hmem) ha' hk)
          · intro j hji hbit hbit' w w' hC hkeep hl
            exact (hC hl).trans (hkeep (keep_of ho hl (fun hh => hji hh.symm) hbit hbit'))
          · intro j oj hoj hji hjun hno
            rcases allOk_apart hok ho hoj (fun hh => hji hh.symm) with h1 | h1 | h1
            · obtain ⟨ed, hed, hbi, hon⟩ := edge_bit.1 h1
              exact absurd hon (hno ed hed hbi)
            · obtain ⟨ed, hed, hbi, hon⟩ := edge_bit.1 h1
              have h2 := hall ed hed hbi
              rw [hon] at h2
              have hlt : j < ops.size := (Array.getElem?_eq_some_iff.1 hoj).1
              rw [hbits.at hlt] at h2 hjun
              rw [h2] at hjun
              cases hjun
            · exact h1
        · exact (show False from h).elim
      · have hne : Region.ready .any ops listed ≠ [] := fun h0 => by
          have : r ∈ Region.ready .any ops listed := (hrr hbits r).1 (by rw [hr]; simp)
          rw [h0] at this
          cases this
        refine ⟨fun h0 => absurd h0 hne, fun i0 hi0 => ?_⟩
        replace hi0 := (hrr hbits i0).2 hi0
        rw [hr] at hi0
        have hall : ∀ i ∈ r :: rs, i ∈ Region.ready .any ops listed := fun i hi => (hrr hbits i).1 (by rw [hr]; exact hi)
        clear hr hne
        revert i0
        generalize r :: rs = l at h hall
        intro i0
        revert i0
        induction l with
        | nil => intro i hi; cases hi
        | cons j l ihl =>
          simp only [List.foldr_cons] at h
          obtain ⟨hjun, oj, hoj, hjall⟩ := mem_ready.1 (hall j (by simp))
          simp only [toX, hoj, runY, StepW, KeepW] at h
          intro i hi
          rcases List.mem_cons.1 hi with rfl | hi
          · unfold xopi
            rw [hoj]
            refine xop_mono ?_ (sxi_sound (fun cs b => Region.noSelect_spec hsel i oj cs b hoj) ha h.1)
            intro a' w' ⟨e', ha', hk1, M', hsub, hk2⟩
            exact ⟨hk1, wK_sub hsub _ _ _ _ (ih _ _ _ _ _ _ (hbits.add i) (hclo.add (hall i (by simp))) ha' hk2)⟩
          · exact ihl h.2 (fun i hi => hall i (by simp [hi])) i hi

theorem par_sound {id : Nat} {a : Act} {e : Env} {w : World} (hm : P.follows .mixedOrders = true) (hin : inside ops = true) (ha : Agr n a e)
    (h : runX P Q M (plan P n ops) e w.drew) : (Code.region id ops true).wp P (Qn n Q) a w := by
  unfold plan at h
  split at h
  · rename_i hh
    simp only [Bool.and_eq_true] at hh
    refine wp_region_any hm (wK_any _ _ _ _ (runX_sound hh.1 hh.2 hin _ _ _ _ _ _ ⟨by simp, fun i hi => by simp [hi]⟩ (fun k o _ hk => absurd hk (by simp [Array.getElem?_replicate]; split <;> simp)) ha h))
  · exact (show False from h).elim
theorem parY_sound {id : Nat} {a : Act} {e : Env} {w : World} (hm : P.follows .mixedOrders = true) (hin : inside ops = true) (ha : Agr n a e)
    (h : runY P Q (plan P n ops) M e w.drew) : (Code.region id ops true).wp P (Qn n Q) a w := by
  unfold plan at h
  split at h
  · rename_i hh
    simp only [Bool.and_eq_true] at hh
    refine wp_region_any hm (wK_any _ _ _ _ (runY_sound hh.1 hh.2 hin _ _ _ _ _ _ _ ⟨by simp, fun i hi => by simp [hi]⟩ (fun k o _ hk => absurd hk (by simp [Array.getElem?_replicate]; split <;> simp)) ha h))
  · exact (show False from h).elim
end
end Go.Lk
