/- Soundness of the compact operations, more. No statement of the seat is proved in this text. -/
import Derived.Test.YtofoamkiidkbkaaSound
set_option linter.unusedSimpArgs false
set_option linter.unusedVariables false
set_option linter.unusedSectionVars false
set_option linter.unnecessarySimpa false
namespace Go.Lk

theorem cells_add_lt {a : Addr} {i : Nat} : (a.add i).block = a.block := by unfold Addr.add; split <;> rfl

theorem putCells_run {P : Program} {a : Addr} : ∀ (l : List Value) (i : Nat) (w : World), l.all plain = true →
    (∀ j, j < l.length → (w.cell? (a.add (i + j))).isSome = true ∧ w.frozen? (a.add (i + j)) = false) → (storeCells a l i).run P w = .ok () (putCells w a l i)
  | [], i, w, _, _ => by simp [storeCells, putCells]
  | v :: r, i, w, hp, h => by
    simp only [List.all_cons, Bool.and_eq_true] at hp
    have h0 := h 0 (by simp)
    simp at h0
    obtain ⟨u, hu⟩ := Option.isSome_iff_exists.1 h0.1
    have hone : v.oneCell' = true := by
      have := hp.1
      cases v <;> first | rfl | simp [plain] at this
    have keep : ∀ b : Addr, ((w.setCell (a.add i) v).cell? b).isSome = (w.cell? b).isSome ∧ (w.setCell (a.add i) v).frozen? b = w.frozen? b := by
      intro b
      unfold World.cell? World.frozen? World.setCell
      simp only [Array.getElem?_modify]
      by_cases hb : (a.add i).block = b.block
      · simp only [hb, if_true]
        cases hbb : w.heap[b.block]? with
        | none => simp
        | some o =>
          cases o with
          | cells c el fr =>
            refine ⟨?_, by simp⟩
            show Option.isSome (if b.spot.isSome then none else (if (a.add i).spot.isSome then c else c.setIfInBounds (a.add i).off v)[b.off]?) = Option.isSome (if b.spot.isSome then none else c[b.off]?)
            by_cases hb1 : b.spot.isSome = true
            · simp [hb1]
            · by_cases hb2 : (a.add i).spot.isSome = true
              · simp [hb1, hb2]
              · simp only [hb1, hb2, if_false]
                by_cases hlt : b.off < c.size
                · simp [hlt]
                · simp [hlt]
          | _ => simp
      · simp [hb]
    have ih := putCells_run (P := P) (a := a) r (i + 1) (w.setCell (a.add i) v) hp.2 (fun j hj => by
      have := h (j + 1) (by simp; omega)
      rw [show i + 1 + j = i + (j + 1) by omega, (keep _).1, (keep _).2]
      exact this)
    have hs : (store (a.add i) v).run P w = .ok () (w.setCell (a.add i) v) := by
      rw [run_store P w (a.add i) v .plain hone, hu]
      simp [h0.2]
    simp only [storeCells, Sem.run_bind, hs, putCells, Result.andThen_ok]
    exact ih

section
variable {P : Program} {n d : Nat} {a : Act} {e : Env} {w : World} {K : Env → World → Prop} {t : Nat} {pos : String} {af : Array Edge} {g : Option (Nat × Bool)}

theorem s_slice (T : Nat) (y : Operand) (lo hi mx : Option Operand) {x : XOp} (hc : copD P d (.slice T y lo hi mx) = some x) (ha : Agr n a e) (hd : d < n) (h : sx P x K e w) :
    PN P ⟨some d, .slice T y lo hi mx, t, pos, af, g⟩ a w d e K := by
  simp only [copD] at hc
  split at hc
  · simp at hc
  rename_i hm
  have hmx : mx = none ∨ hi.isSome = true := by
    cases mx <;> cases hi <;> simp at hm ⊢
  split at hc
  · rename_i et hT
    split at hc <;> (try (simp at hc; done))
    rename_i s hs
    injection hc with hc; subst hc
    obtain ⟨u, hu, h⟩ := B_out h
    cases u <;> (try (exact (show False from h).elim))
    rename_i ad len cap
    obtain ⟨m, hm1, h⟩ := B_out h
    obtain ⟨hh, hm2, h⟩ := B_out h
    obtain ⟨l, hm3, h⟩ := B_out h
    refine pure_next ha hd ?_ h
    simp only [execOp, Instr.sliceAt, ha.opd hu, Sem.run_bind, und_run hT, Result.andThen_ok, Instr.slice, bounds_run ha true hm1 hm2 hm3 hmx, size_run hs, cutv]
    rfl
  · rename_i hT
    split at hc
    · simp at hc
    rename_i hmn
    obtain rfl : mx = none := by cases mx <;> simp at hmn ⊢
    injection hc with hc; subst hc
    obtain ⟨u, hu, h⟩ := B_out h
    cases u <;> (try (exact (show False from h).elim))
    rename_i s
    obtain ⟨hh, hm2, h⟩ := B_out h
    obtain ⟨l, hm3, h⟩ := B_out h
    refine pure_next ha hd ?_ h
    have hb := bounds_run (P := P) ha (mx := none) false (cap := s.size) (m := s.size) rfl hm2 hm3 (.inl rfl) w
    simp only [Option.map_none] at hb
    simp only [execOp, Instr.sliceAt, ha.opd hu, Sem.run_bind, und_run hT, Result.andThen_ok, Instr.slice, Option.map_none, Option.isSome_none]
    simp [hb]
  · rename_i len et hT
    split at hc <;> (try (simp at hc; done))
    rename_i s hs
    injection hc with hc; subst hc
    obtain ⟨u, hu, h⟩ := B_out h
    cases u <;> (try (exact (show False from h).elim))
    rename_i ad
    cases ad <;> (try (exact (show False from h).elim))
    obtain ⟨m, hm1, h⟩ := B_out h
    obtain ⟨hh, hm2, h⟩ := B_out h
    obtain ⟨l, hm3, h⟩ := B_out h
    refine pure_next ha hd ?_ h
    simp only [execOp, Instr.sliceAt, ha.opd hu, Sem.run_bind, und_run hT, Result.andThen_ok, Instr.sureAddr, bounds_run ha false hm1 hm2 hm3 hmx, size_run hs]
    rfl
  · simp at hc

theorem plain_cells {v : Value} (h : plain v = true) : v.cells = #[v] := by cases v <;> first | rfl | simp [plain] at h

theorem fill_one {place : Nat → Option (Nat × Nat)} {ρ : Operand → Value} {f : Nat → Option Nat} (hp : ∀ i o, f i = some o → place i = some (o, 1)) :
    ∀ (parts l : List (Nat × Operand)) (cells : Array Value), offsL f parts = some l → (∀ p ∈ l, p.1 < cells.size) → (∀ p ∈ l, plain (ρ p.2) = true) →
      Instr.fill place cells (parts.map fun (i, x) => (i, ρ x)) = some (l.foldl (fun cs p => cs.setIfInBounds p.1 (ρ p.2)) cells)
  | [], l, cells, h, _, _ => by simp [offsL] at h; subst h; rfl
  | (i, x) :: r, l, cells, h, hb, hpl => by
    simp only [offsL] at h
    split at h
    · rename_i o l' ho hl
      injection h with h
      subst h
      have h1 := plain_cells (hpl (o, x) (by simp))
      have h2 : o < cells.size := hb (o, x) (by simp)
      have ih := fill_one (ρ := ρ) hp r l' (cells.setIfInBounds o (ρ x)) hl (fun p hp => by simpa using hb p (by simp [hp])) (fun p hp => hpl p (by simp [hp]))
      simp only [List.map_cons, Instr.fill, hp i o ho, h1, List.foldl_cons]
      rw [← ih]
      simp [show ¬ cells.size < o + 1 by omega]
    · cases h

theorem foldl_set_size {ρ : Operand → Value} : ∀ (l : List (Nat × Operand)) (cells : Array Value), (l.foldl (fun cs p => cs.setIfInBounds p.1 (ρ p.2)) cells).size = cells.size
  | [], _ => rfl
  | p :: r, cells => by rw [List.foldl_cons, foldl_set_size r]; simp

theorem foldl_set_get {ρ : Operand → Value} : ∀ (l : List (Nat × Operand)) (cells : Array Value) (j : Nat), (l.map (·.1)).Nodup → j < cells.size →
    (l.foldl (fun cs p => cs.setIfInBounds p.1 (ρ p.2)) cells)[j]? = some (match l.find? (fun p => p.1 == j) with | some p => ρ p.2 | none => cells[j]!)
  | [], cells, j, _, hj => by simp [hj]
  | p :: r, cells, j, hn, hj => by
    simp only [List.map_cons, List.nodup_cons] at hn
    rw [List.foldl_cons, foldl_set_get r _ j hn.2 (by simpa using hj), List.find?_cons]
    by_cases hpj : p.1 = j
    · subst hpj
      have : r.find? (fun q => q.1 == p.1) = none := by
        rw [List.find?_eq_none]
        intro q hq hh
        exact hn.1 (List.mem_map.2 ⟨q, hq, by simpa using hh⟩)
      rw [this]
      simp [hj]
    · have : (p.1 == j) = false := by simpa using hpj
      rw [this]
      simp [hpj, hj]

theorem tmpl_get {e : Env} {n : Nat} {a : Act} (ha : Agr n a e) {l : List (Nat × Operand)} : ∀ (cs : List Value) (s : Nat) (vs : List Value),
    opds e ((cs.zipIdx s).map fun (c, j) => match l.find? (fun p => p.1 == j) with | some p => p.2 | none => Operand.const c) = some vs →
    vs.length = cs.length ∧ ∀ j, j < cs.length → vs[j]? = some (match l.find? (fun p => p.1 == s + j) with | some p => a.eval p.2 | none => cs[j]!)
  | [], s, vs, h => by simp [opds] at h; subst h; simp
  | c :: cs, s, vs, h => by
    simp only [List.zipIdx_cons, List.map_cons, opds] at h
    split at h
    · rename_i v us hv hus
      injection h with h
      subst h
      obtain ⟨h1, h2⟩ := tmpl_get ha cs (s + 1) us hus
      refine ⟨by simp [h1], fun j hj => ?_⟩
      cases j with
      | zero =>
        have hv' := ha.opd hv
        rw [Nat.add_zero]
        cases hf : l.find? (fun p => p.1 == s) with
        | some p => rw [hf] at hv'; simp only [] at hv' ⊢; simp [hv']
        | none => rw [hf] at hv'; simp only [] at hv' ⊢; simp [Act.eval] at hv'; simp [hv']
      | succ j =>
        have := h2 j (by simpa using hj)
        rw [show s + (j + 1) = s + 1 + j by omega]
        simpa using this
    · cases h

theorem find_nodup {p : Nat × Operand} : ∀ (l : List (Nat × Operand)), (l.map (·.1)).Nodup → p ∈ l → l.find? (fun q => q.1 == p.1) = some p
  | [], _, hp => by cases hp
  | q :: r, hn, hp => by
    simp only [List.map_cons, List.nodup_cons] at hn
    rw [List.find?_cons]
    rcases List.mem_cons.1 hp with rfl | hp
    · simp
    · have hne : (q.1 == p.1) = false := by
        simp only [beq_eq_false_iff_ne, ne_eq]
        exact fun hh => hn.1 (List.mem_map.2 ⟨p, hp, hh.symm⟩)
      rw [hne]
      exact find_nodup r hn.2 hp

theorem places_run : ∀ (l : List Field), (l.all fun fd => (sizeT P fd.type).isSome) = true →
    (l.mapM fun (fd : Field) => (do pure (fd.offset, ← sizeOf fd.type) : Sem (Nat × Nat))).run P w = .ok (l.map fun fd => (fd.offset, (sizeT P fd.type).getD 0)) w
  | [], _ => by simp
  | fd :: r, h => by
    simp only [List.all_cons, Bool.and_eq_true] at h
    obtain ⟨s, hs⟩ := Option.isSome_iff_exists.1 h.1
    have ih := places_run r h.2
    rw [List.mapM_cons, Sem.run_bind]
    simp only [Sem.run_bind, size_run hs, Result.andThen_ok, Sem.run_pure, ih, List.map_cons, hs, Option.getD_some]

theorem s_build (T : Nat) (parts : Array (Nat × Operand)) {x : XOp} (hc : copD P d (.build T parts) = some x) (ha : Agr n a e) (hd : d < n) (h : sx P x K e w) :
    PN P ⟨some d, .build T parts, t, pos, af, g⟩ a w d e K := by
  simp only [copD] at hc
  split at hc <;> (try (simp at hc; done))
  rename_i tm htm
  injection hc with hc; subst hc
  obtain ⟨vs, hvs, hpl, hk⟩ := B_out h
  refine pure_next ha hd ?_ hk
  unfold copBld at htm
  split at htm <;> (try (simp at htm; done))
  rename_i f z hf hz
  split at htm <;> (try (simp at htm; done))
  rename_i l hl
  simp only [] at htm
  split at htm <;> (try (simp at htm; done))
  rename_i hcond
  injection htm with htm
  subst htm
  obtain ⟨hlen, hget⟩ := tmpl_get ha z.cells.toList 0 vs hvs
  have hplain : ∀ p ∈ l, plain (a.eval p.2) = true := by
    intro p hp
    have hlt := hcond.2 p hp
    have h1 := hget p.1 hlt
    rw [Nat.zero_add] at h1
    have hfind := find_nodup l hcond.1 hp
    rw [hfind] at h1
    simp only [] at h1
    rw [List.all_eq_true] at hpl
    exact hpl _ (List.mem_of_getElem? h1)
  obtain ⟨i0, hi0, hz0⟩ := Option.bind_eq_some_iff.1 hz
  have hzr : (zeroValue T).run P w = .ok z w := by simp [zeroValue, typeInfo, hi0, hz0]
  have hmap : (parts.map fun (p : Nat × Operand) => (p.1, a.eval p.2)).toList = parts.toList.map fun (i, x) => (i, a.eval x) := by simp
  have hcells : (l.foldl (fun cs p => cs.setIfInBounds p.1 (a.eval p.2)) z.cells) = vs.toArray := by
    apply Array.ext'
    apply List.ext_getElem?
    intro j
    by_cases hj : j < z.cells.size
    · have h1 := foldl_set_get (ρ := a.eval) l z.cells j hcond.1 hj
      have h2 := hget j (by simpa using hj)
      rw [Nat.zero_add] at h2
      rw [Array.getElem?_toList, h1]
      simp only [h2]
      cases l.find? (fun p => p.1 == j) with
      | some p => rfl
      | none => simp [hj]
    · rw [List.getElem?_eq_none (by rw [Array.length_toList, foldl_set_size]; omega), List.getElem?_eq_none (by simp; simp at hlen; omega)]
  unfold offs at hf
  split at hf <;> (try (simp at hf; done))
  · rename_i fs hT
    split at hf <;> (try (simp at hf; done))
    rename_i hall
    injection hf with hf
    have hplaces : (fs.mapM fun (fd : Field) => (do pure (fd.offset, ← sizeOf fd.type) : Sem (Nat × Nat))).run P w = .ok (fs.map fun fd => (fd.offset, (sizeT P fd.type).getD 0)) w := by
      rw [Array.mapM_eq_mapM_toList, Sem.run_map, places_run fs.toList hall]
      simp only [Result.andThen_ok]
      congr 1
      apply Array.ext'
      simp
    have hfill := fill_one (ρ := a.eval) (place := ((fs.map fun fd => (fd.offset, (sizeT P fd.type).getD 0))[·]?)) (f := f) (fun i o ho => by
      rw [← hf] at ho
      simp only [] at ho
      split at ho
      · rename_i fd hfd
        split at ho
        · rename_i hs
          injection ho with ho
          subst ho
          simp [hfd, hs]
        · cases ho
      · cases ho) parts.toList l z.cells hl (fun p hp => by simpa using hcond.2 p hp) hplain
    simp only [execOp, Instr.build, Sem.run_bind, hzr, Result.andThen_ok, und_run hT, hplaces, hmap, hfill, hcells]
    rfl
  · rename_i len et hT
    split at hf <;> (try (simp at hf; done))
    rename_i hs
    injection hf with hf
    have hfill := fill_one (ρ := a.eval) (place := fun i => some (i * 1, 1)) (f := f) (fun i o ho => by rw [← hf] at ho; simp at ho; simp [ho]) parts.toList l z.cells hl (fun p hp => by simpa using hcond.2 p hp) hplain
    simp only [execOp, Instr.build, Sem.run_bind, hzr, Result.andThen_ok, und_run hT, size_run hs, hmap, hfill, hcells]
    rfl

theorem s_load (T : Nat) (y : Operand) {x : XOp} (hc : copD P d (.load T y) = some x) (ha : Agr n a e) (hd : d < n) (h : sx P x K e w) :
    PN P ⟨some d, .load T y, t, pos, af, g⟩ a w d e K := by
  simp only [copD] at hc
  split at hc <;> (try (simp at hc; done))
  · rename_i hb
    injection hc with hc; subst hc
    obtain ⟨u, hu, h⟩ := B_out h
    cases u <;> (try (exact (show False from h).elim))
    rename_i ad
    cases ad <;> (try (exact (show False from h).elim))
    obtain ⟨v, hv, h⟩ := B_out h
    refine pure_next ha hd ?_ h
    simp [execOp, Instr.loadAt, ha.opd hu, Instr.sureAddr, loadVar, agg_run hb, hv]
  · rename_i sz hb hs
    injection hc with hc; subst hc
    obtain ⟨u, hu, h⟩ := B_out h
    cases u <;> (try (exact (show False from h).elim))
    rename_i ad
    cases ad <;> (try (exact (show False from h).elim))
    obtain ⟨cs, hl, hcs, h⟩ := h
    refine pure_next ha hd ?_ h
    have := loadCellsFrom_run (P := P) (w := w) sz 0 #[] cs hl (fun j hj => by rw [Nat.zero_add]; exact hcs j hj)
    simp [execOp, Instr.loadAt, ha.opd hu, Instr.sureAddr, loadVar, agg_run hb, size_run hs, loadCells, this]

theorem s_box (T : Nat) (y : Operand) {x : XOp} (hc : copD P d (.box T y) = some x) (ha : Agr n a e) (hd : d < n) (h : sx P x K e w) :
    exec P ⟨some d, .box T y, t, pos, af, g⟩ a w (Next n K) := by
  simp only [copD] at hc
  injection hc with hc; subst hc
  obtain ⟨u, hu, h⟩ := B_out h
  unfold exec
  simp only [execOp, Instr.box, ha.opd hu, newVar, newRow, Sem.run_bind, run_newObj, Sem.run_pure, Result.andThen_ok, after]
  exact ⟨_, ha.put hd _, h⟩

theorem call_run {f : Nat} {args : Array Operand} {as : Array TypeId} (hf : callT P f = true) {ρ : Operand → Value} (hρ : ρ (.func f) = .func (.func f) #[] #[]) {dst : Option Nat} (w : World) :
    (execOp ρ ⟨dst, .call { callee := .value (.func f), args := args, argTypes := as }, t, pos, af, g⟩).run P w = .ok (.enter f (args.map ρ)) w := by
  unfold callT at hf
  split at hf
  · rename_i fn hfn
    simp only [Bool.and_eq_true, bne_iff_ne] at hf
    have hb : fn.body.isNone = false := by
      cases hbb : fn.body <;> simp [hbb] at hf ⊢
    simp only [execOp, resolve, hρ, Deferred.ofValue, invoke, Sem.run_bind, Sem.run_pure, Result.andThen_ok, callFunc, run_program, hfn]
    simp [hf.1, hb]
  · simp at hf

theorem s_len {c : Call} {x : XOp} {y : Operand} (hx : x = .len d y ∨ x = .lens d y) (hc : copD P d (.call c) = some x) (ha : Agr n a e) (hd : d < n) (h : sx P x K e w) :
    PN P ⟨some d, .call c, t, pos, af, g⟩ a w d e K := by
  obtain ⟨callee, args, ats⟩ := c
  simp only [copD] at hc
  split at hc <;> (try (simp at hc; done))
  · split at hc <;> (try (simp at hc; done))
    injection hc with hc
    subst hc
    rcases hx with hx | hx <;> cases hx
  · clear hx
    split at hc <;> (try (simp at hc; done))
    · rename_i y T0 hargs hT
      injection hc with hc; subst hc
      obtain ⟨u, hu, h⟩ := B_out h
      obtain ⟨r, hr, h⟩ := B_out h
      have ha1 : args = #[y] := by apply Array.ext'; simpa using hargs
      subst ha1
      obtain ⟨T, hT0, hT⟩ := Option.bind_eq_some_iff.1 hT
      cases u <;> simp [lenv] at hr
      subst hr
      refine pure_next ha hd ?_ h
      simp [execOp, resolve, invoke, builtin, Builtin.len_, hT0, ha.opd hu, und_run hT, goInt]
    · rename_i y hargs hT
      injection hc with hc; subst hc
      obtain ⟨u, hu, h⟩ := B_out h
      obtain ⟨r, hr, h⟩ := B_out h
      have ha1 : args = #[y] := by apply Array.ext'; simpa using hargs
      subst ha1
      obtain ⟨T, hT0, hT⟩ := Option.bind_eq_some_iff.1 hT
      cases u <;> simp [lensv] at hr
      subst hr
      refine pure_next ha hd ?_ h
      simp [execOp, resolve, invoke, builtin, Builtin.len_, hT0, ha.opd hu, und_run hT, goInt]

theorem s_call {c : Call} {x : XOp} (hc : copD P d (.call c) = some x) (ha : Agr n a e) (hd : d < n) (h : sx P x K e w) :
    exec P ⟨some d, .call c, t, pos, af, g⟩ a w (Next n K) := by
  by_cases hq : ∃ y, x = .len d y ∨ x = .lens d y
  · obtain ⟨y, hy⟩ := hq
    exact (s_len hy hc ha hd h).exec ha hd
  obtain ⟨callee, args, ats⟩ := c
  simp only [copD] at hc
  split at hc <;> (try (simp at hc; done))
  · rename_i f
    split at hc <;> (try (simp at hc; done))
    rename_i hf
    injection hc with hc; subst hc
    obtain ⟨vs, hv, h⟩ := B_out h
    unfold exec
    rw [call_run hf rfl]
    simp only [after]
    have hargs : args.map a.eval = vs.toArray := by rw [← opds_eval ha hv]; apply Array.ext'; simp
    rw [hargs]
    exact h.mono fun en w' ⟨v, hv, hk⟩ => ⟨v, hv, _, ha.put hd v, hk⟩
  · split at hc <;> (try (simp at hc; done))
    all_goals
      injection hc with hc; subst hc
      first | exact absurd ⟨_, .inl rfl⟩ hq | exact absurd ⟨_, .inr rfl⟩ hq

/-- What yields a value and leaves the world alone. -/
theorem copD_quiet {op : Op} {x : XOp} (hc : copD P d op = some x) (hq : (∀ t y, x ≠ .box d t y) ∧ ∀ f l, x ≠ .call (some d) f l) (ha : Agr n a e) (hd : d < n) (h : sx P x K e w) :
    PN P ⟨some d, op, t, pos, af, g⟩ a w d e K := by
  cases op
  case move y => exact s_move y hc ha hd h
  case assign y => exact s_assign y hc ha hd h
  case pick c y z => exact s_pick c y z hc ha hd h
  case binOp op T y z yt => exact s_binOp op T y z yt hc ha hd h
  case unOp op T y => exact s_unOp op T y hc ha hd h
  case convert src dst y => exact s_convert src dst y hc ha hd h
  case extract y i => exact s_extract y i hc ha hd h
  case field T y f => exact s_field T y f hc ha hd h
  case fieldAddr T y f => exact s_fieldAddr T y f hc ha hd h
  case indexAddr T y i => exact s_indexAddr T y i hc ha hd h
  case index T y i => exact s_index T y i hc ha hd h
  case nilCheck y => exact s_nilCheck y hc ha hd h
  case makeInterface T y => exact s_makeInterface T y hc ha hd h
  case build T parts => exact s_build T parts hc ha hd h
  case makeFunc fn fs cs => exact s_makeFunc fn fs cs hc ha hd h
  case slice T y lo hi mx => exact s_slice T y lo hi mx hc ha hd h
  case load T y => exact s_load T y hc ha hd h
  case box T y => simp only [copD] at hc; injection hc with hc; exact absurd hc.symm (hq.1 _ _)
  case call c =>
    have hx : ∃ y, x = .len d y ∨ x = .lens d y := by
      simp only [copD] at hc
      split at hc <;> (try (simp at hc; done))
      · split at hc <;> (try (simp at hc; done))
        injection hc with hc
        exact absurd hc.symm (hq.2 _ _)
      · split at hc <;> (try (simp at hc; done))
        all_goals (injection hc with hc; first | exact ⟨_, .inl hc.symm⟩ | exact ⟨_, .inr hc.symm⟩)
    obtain ⟨y, hy⟩ := hx
    exact s_len hy hc ha hd h
  all_goals (simp [copD] at hc)

theorem copD_sound {op : Op} {x : XOp} (hc : copD P d op = some x) (ha : Agr n a e) (hd : d < n) (h : sx P x K e w) :
    exec P ⟨some d, op, t, pos, af, g⟩ a w (Next n K) := by
  cases op
  case move y => exact (s_move y hc ha hd h).exec ha hd
  case assign y => exact (s_assign y hc ha hd h).exec ha hd
  case pick c y z => exact (s_pick c y z hc ha hd h).exec ha hd
  case binOp op T y z yt => exact (s_binOp op T y z yt hc ha hd h).exec ha hd
  case unOp op T y => exact (s_unOp op T y hc ha hd h).exec ha hd
  case convert src dst y => exact (s_convert src dst y hc ha hd h).exec ha hd
  case extract y i => exact (s_extract y i hc ha hd h).exec ha hd
  case field T y f => exact (s_field T y f hc ha hd h).exec ha hd
  case fieldAddr T y f => exact (s_fieldAddr T y f hc ha hd h).exec ha hd
  case indexAddr T y i => exact (s_indexAddr T y i hc ha hd h).exec ha hd
  case index T y i => exact (s_index T y i hc ha hd h).exec ha hd
  case nilCheck y => exact (s_nilCheck y hc ha hd h).exec ha hd
  case makeInterface T y => exact (s_makeInterface T y hc ha hd h).exec ha hd
  case build T parts => exact (s_build T parts hc ha hd h).exec ha hd
  case makeFunc fn fs cs => exact (s_makeFunc fn fs cs hc ha hd h).exec ha hd
  case slice T y lo hi mx => exact (s_slice T y lo hi mx hc ha hd h).exec ha hd
  case load T y => exact (s_load T y hc ha hd h).exec ha hd
  case box T y => exact s_box T y hc ha hd h
  case call c => exact s_call hc ha hd h
  all_goals (simp [copD] at hc)
end
end Go.Lk
