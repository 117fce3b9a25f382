/- Further rules: appended noughts, min and max, calls without a body. No statement of the seat is proved in this text. -/
import Derived.Test.YtofoamkiidkbkaaWord
import Derived.Test.YtofoamkiidkbkaaLoop
import Derived.Laws.Externs
set_option linter.unusedSimpArgs false
set_option linter.unusedVariables false
set_option linter.unusedSectionVars false
set_option linter.unnecessarySimpa false
namespace Go.Lk

/-- append(s, make(.., m)...) -/
theorem appz_run {P : Program} {T Ti et sz bytes ty n m B : Nat} {k : IntKind} {z xs : List Value} {s : Value} {w : World} (he : El P T et z sz bytes) (hTi : P.underlying Ti = some (.int k)) (hpl0 : z.all plain = true)
    (hs : Rd w.heap sz s n xs) (ho : Own B w.heap sz s) (hB : B ≤ w.heap.size) (hb : (n + m) * bytes ≤ 140737488355328) (hnm : n + m < 9223372036854775808) :
    ∃ s' w', (Builtin.append_ #[T, Ti] ty #[s, vi m]).run P w = .ok s' w' ∧ Rd w'.heap sz s' (n + m) (xs ++ reps m z) ∧ Own B w'.heap sz s' ∧ Fr (fun k => s.ownBlock = some k ∧ B ≤ k) w w' ∧
      (∀ b, s'.ownBlock = some b → s.ownBlock = some b ∨ w.heap.size ≤ b) := by
  obtain ⟨hu, ⟨i, zv, hi, hz, hzc, hsz, hby⟩, hpos, hlen⟩ := he
  have hfs := first_run (P := P) hs
  obtain ⟨ys, hys⟩ : ∃ ys, ys = reps m z := ⟨_, rfl⟩
  rw [← hys]
  have hl2 : ys.length = m * sz := by rw [hys, reps_length, hlen]
  have hpl : ys.all plain = true := by
    rw [hys, List.all_eq_true]
    intro x hx
    simp only [reps, List.mem_flatten, List.mem_replicate] at hx
    obtain ⟨l, ⟨_, rfl⟩, hx⟩ := hx
    exact List.all_eq_true.1 hpl0 x hx
  have hza : Builtin.zeroCells zv.cells m = ys.toArray := by
    apply Array.ext'
    have := mod_cells z zv.cells hzc (by omega) m
    have hsz2 : zv.cells.size = z.length := by rw [← hzc]; simp
    simp only [Builtin.zeroCells, hsz2]
    rw [this, hys]
  have hw : IntKind.i64.wrap (m : Int) = m := wrap64_id (by omega) (by omega)
  have hbm : ¬ ((2 : Int) ^ 48 < (m : Int) * (bytes : Int)) := by
    have h1 : m * bytes ≤ 140737488355328 := Nat.le_trans (Nat.mul_le_mul_right _ (by omega)) hb
    have e1 : (2 : Int) ^ 48 = 281474976710656 := by decide
    rw [e1, ← Int.natCast_mul]
    omega
  have hm0 : ¬ ((m : Int) < 0) := by omega
  have hfs' : ∀ w2 : World, w2.heap = w.heap → (Builtin.firstCells sz n s).run P w2 = .ok xs.toArray w2 := fun w2 h2 => first_run (by rw [h2]; exact hs)
  obtain ⟨a, c, rfl, hc, hl, hx⟩ := id hs
  by_cases hroom : n + m ≤ c
  · by_cases hm : m = 0
    · subst hm
      have hys0 : ys = [] := List.length_eq_zero_iff.1 (by simpa using hl2)
      rw [hys0]
      refine ⟨.slice a n c, w, ?_, by simpa using hs, ho, Fr.refl w, fun b hb => .inl hb⟩
      unfold Builtin.append_
      simp only [List.getElem?_toArray, List.getElem?_cons_zero, List.getElem?_cons_succ, Sem.run_bind, und_run hu, und_run hTi, Result.andThen_ok, sizeOf, typeInfo, run_program, hi, Sem.run_pure, if_true, asInt, asIntOf, hw, hm0, hbm, gt_iff_lt, if_false, hsz, hby, Int.toNat_natCast]
      rw [if_pos hroom]
      simp only [Bool.not_true, Bool.false_eq_true, if_false, Nat.zero_mul, if_true, Sem.run_bind, Sem.run_pure, Result.andThen_ok]
      cases a <;> simp [storeCells]
    · obtain ⟨b, o, cs, E, fr, rfl, hBb, hcell, hcap, hfr⟩ := ho a n c rfl (by omega)
      have hmul : n * sz + m * sz ≤ c * sz := by rw [← Nat.add_mul]; exact Nat.mul_le_mul_right _ hroom
      have hexist : ∀ j, j < ys.length → (w.cell? ⟨b, o + n * sz + j, none⟩).isSome = true ∧ w.frozen? ⟨b, o + n * sz + j, none⟩ = false := by
        intro j hj
        have hlt : o + n * sz + j < cs.size := by omega
        refine ⟨by simp [World.cell?, hcell, hlt], ?_⟩
        obtain ⟨lo, hi'⟩ := fr
        simp only [World.frozen?, hcell]
        simp only [Bool.and_eq_false_iff, decide_eq_false_iff_not]
        simp only [] at hfr
        omega
      have hput := putCells_run (P := P) (a := ⟨b, o + n * sz, none⟩) ys 0 w hpl (fun j hj => by rw [Nat.zero_add, add_addr]; exact hexist j hj)
      obtain ⟨cs', h2, h3, h4⟩ := putCells_cells ys w b (o + n * sz) 0 cs E fr hcell (by omega)
      have hfrm := putCells_fr ys w b (o + n * sz) 0
      refine ⟨.slice (some ⟨b, o, none⟩) (n + m) c, _, ?_, ⟨_, c, rfl, hroom, by simp [hl, hl2, Nat.add_mul], fun _ => ⟨b, o, rfl, cs', E, fr, h2, fun j hj => ?_⟩⟩, ?_, hfrm.mono (fun k _ hk => ⟨by rw [hk]; rfl, by rw [hk]; exact hBb⟩), fun b' hb' => .inl hb'⟩
      · unfold Builtin.append_
        simp only [List.getElem?_toArray, List.getElem?_cons_zero, List.getElem?_cons_succ, Sem.run_bind, und_run hu, und_run hTi, Result.andThen_ok, sizeOf, typeInfo, run_program, hi, Sem.run_pure, if_true, asInt, asIntOf, hw, hm0, hbm, gt_iff_lt, if_false, hsz, hby, Int.toNat_natCast]
        rw [if_pos hroom]
        have hne : ¬ (m * sz = 0) := by
          intro h0
          rcases Nat.mul_eq_zero.1 h0 with h0 | h0 <;> omega
        simp only [Bool.not_true, Bool.false_eq_true, if_false, hne, Sem.run_bind, zeroValue, typeInfo, run_program, hi, hz, hza, Sem.run_pure, Result.andThen_ok, add_addr, hput]
      · rw [h4]
        by_cases hjn : j < n * sz
        · rw [if_neg (by omega), List.getElem?_append_left (by omega)]
          obtain ⟨b', o', ha, cs0, E0, fr0, h5, h6⟩ := hx (by
            rcases Nat.eq_zero_or_pos n with h0 | h0
            · subst h0; simp at hjn
            · exact h0)
          injection ha with ha; injection ha with hb1 ho1
          subst hb1; subst ho1
          rw [hcell] at h5
          injection h5 with h5; injection h5 with h5
          subst h5
          exact h6 j hjn
        · rw [Nat.add_mul] at hj
          rw [if_pos (by omega), List.getElem?_append_right (by omega)]
          congr 1
          omega
      · intro a' n' c' hv' hlt
        injection hv' with e1 e2 e3
        subst e1; subst e2; subst e3
        exact ⟨b, o, cs', E, fr, rfl, hBb, h2, by omega, by rw [h3]; exact hfr⟩
  · have hfit := growslice_fits (bytes := bytes) (show c < n + m by omega) hb
    let nc := grownCap w (n + m) c et
    let cells : Array Value := xs.toArray ++ ys.toArray ++ Builtin.zeroCells zv.cells (nc - (n + m))
    have hnew : (w.drew.alloc (.cells cells et)).heap[w.heap.size]? = some (.cells cells et) := heap_alloc_new w.drew _
    have hold : ∀ k, k < w.heap.size → (w.drew.alloc (.cells cells et)).heap[k]? = w.heap[k]? := fun k hk => heap_alloc_old w.drew _ hk
    have hge : n + m ≤ nc := grownCap_ge w _ _ _
    have hzsz : zv.cells.size = sz := by rw [← hlen, ← hzc]; simp
    have hcsz : cells.size = nc * sz := by
      simp only [cells, Array.size_append, List.size_toArray, hl, hl2, Builtin.zeroCells, Array.size_map, Array.size_range, hzsz]
      rw [← Nat.add_mul, ← Nat.add_mul]
      congr 1
      omega
    refine ⟨.slice (some ⟨w.heap.size, 0, none⟩) (n + m) nc, w.drew.alloc (.cells cells et), ?_, ⟨_, nc, rfl, hge, by simp [hl, hl2, Nat.add_mul], fun _ => ⟨_, 0, rfl, cells, et, (0, 0), hnew, fun j hj => ?_⟩⟩, ?_, ?_, fun b hb => .inr (by simp [Value.ownBlock] at hb; omega)⟩
    · unfold Builtin.append_
      simp only [List.getElem?_toArray, List.getElem?_cons_zero, List.getElem?_cons_succ, Sem.run_bind, und_run hu, und_run hTi, Result.andThen_ok, sizeOf, typeInfo, run_program, hi, Sem.run_pure, if_true, asInt, asIntOf, hw, hm0, hbm, gt_iff_lt, if_false, hsz, hby, Int.toNat_natCast]
      rw [if_neg hroom]
      have hmax : ¬ ((9223372036854775807 : Int) < ((n : Int) + (m : Int))) := by omega
      have h48 : ¬ (281474976710656 < Builtin.nextslicecap (n + m) c * bytes) := by omega
      have hfs2 := hfs' w.drew rfl
      by_cases hne : m * sz = 0
      · exfalso; rcases Nat.mul_eq_zero.1 hne with h0 | h0 <;> omega
      simp [zeroValue, typeInfo, hi, hz, hby, hmax, h48, Question.forced, hfs2, hza, hne, newRow, nc, cells, grownCap]
    · rw [Nat.zero_add]
      simp only [cells]
      rw [Nat.add_mul] at hj
      rw [Array.getElem?_append_left (by simp; omega)]
      simp
    · intro a' n' c' hv' hlt
      injection hv' with e1 e2 e3
      subst e1; subst e2; subst e3
      exact ⟨_, 0, cells, et, (0, 0), rfl, hB, hnew, by omega, .inl rfl⟩
    · exact ⟨rfl, rfl, rfl, by simp, fun k hk _ => hold k hk⟩


theorem appz_rule {K : Env → World → Prop} {P : Program} {d T Ti et sz bytes ty n m B : Nat} {k : IntKind} {z xs : List Value} {s : Value} {x y : Operand} {e : Env} {w : World} {g : Tg K} {g' : Tg (Op.call ⟨.builtin .append, #[x, y], #[T, Ti]⟩)}
    (he : El P T et z sz bytes) (hTi : P.underlying Ti = some (.int k)) (hpl : z.all plain = true) (hx : opd e x = some s) (hy : opd e y = some (vi m)) (hs : Nw B w.heap sz s n xs) (hB : B ≤ w.heap.size) (hb : (n + m) * bytes ≤ 140737488355328) (hnm : n + m < 9223372036854775808)
    (h : ∀ s' w', Nw B w'.heap sz s' (n + m) (xs ++ reps m z) → Fr (fun k => s.ownBlock = some k ∧ B ≤ k) w w' → (∀ b, s'.ownBlock = some b → s.ownBlock = some b ∨ w.heap.size ≤ b) → K ((d, s') :: e) w') :
    RawR K P (some d) (.call ⟨.builtin .append, #[x, y], #[T, Ti]⟩) ty e w g g' := by
  obtain ⟨s', w', hr, h1, h2, h3, h4⟩ := appz_run (P := P) (ty := ty) he hTi hpl hs.rd hs.own hB hb hnm
  refine raw_value (v := s') (w' := w') ?_ ?_ (h s' w' ⟨h1, h2, fun b hb => (h4 b hb).elim (hs.from' b) (fun hb => Nat.le_trans hB hb)⟩ h3 h4)
  · show (opds e [x, y]).isSome = true
    rw [opds_cons hx (opds_cons hy (opds_nil e))]; rfl
  · rw [raw_builtin]
    simp only [builtin, List.map_toArray, List.map_cons, List.map_nil, evd_of hx, evd_of hy, Sem.run_bind, hr, Result.andThen_ok, Sem.run_pure]

theorem appz_bytes {K : Env → World → Prop} {P : Program} {d T Ti et ty m B : Nat} {k : IntKind} {l : List UInt8} {s : Value} {x y : Operand} {e : Env} {w : World} {g : Tg K} {g' : Tg (Op.call ⟨.builtin .append, #[x, y], #[T, Ti]⟩)}
    (he : El P T et [w8 0] 1 1) (hTi : P.underlying Ti = some (.int k)) (hx : opd e x = some s) (hy : opd e y = some (vi m)) (hs : New B w.heap s l) (hB : B ≤ w.heap.size) (hb : l.length + m ≤ 140737488355328)
    (h : ∀ s' w', New B w'.heap s' (l ++ List.replicate m 0) → Fr (fun k => s.ownBlock = some k ∧ B ≤ k) w w' → (∀ b, s'.ownBlock = some b → s.ownBlock = some b ∨ w.heap.size ≤ b) → K ((d, s') :: e) w') :
    RawR K P (some d) (.call ⟨.builtin .append, #[x, y], #[T, Ti]⟩) ty e w g g' := by
  refine appz_rule he hTi rfl hx hy hs.nw hB (by omega) (by omega) fun s' w' h1 h2 h3 => h s' w' (Nw.new (by rw [reps_one] at h1; rw [List.map_append, List.map_replicate]; exact h1) (by simp)) h2 h3

theorem min_rule {K : Env → World → Prop} {P : Program} {d t : Nat} {x y : Operand} {a b : Int} {ts : Array TypeId} {e : Env} {w : World} {g : Tg K} {g' : Tg (Op.call ⟨.builtin .min, #[x, y], ts⟩)}
    (hx : opd e x = some (vi a)) (hy : opd e y = some (vi b)) (h : K ((d, vi (if b < a then b else a)) :: e) w) : RawR K P (some d) (.call ⟨.builtin .min, #[x, y], ts⟩) t e w g g' := by
  refine raw_value (v := vi (if b < a then b else a)) (w' := w) ?_ ?_ h
  · show (opds e [x, y]).isSome = true
    rw [opds_cons hx (opds_cons hy (opds_nil e))]; rfl
  · rw [raw_builtin]
    simp [builtin, evd_of hx, evd_of hy, Builtin.min_, Builtin.min2]
theorem max_rule {K : Env → World → Prop} {P : Program} {d t : Nat} {x y : Operand} {a b : Int} {ts : Array TypeId} {e : Env} {w : World} {g : Tg K} {g' : Tg (Op.call ⟨.builtin .max, #[x, y], ts⟩)}
    (hx : opd e x = some (vi a)) (hy : opd e y = some (vi b)) (h : K ((d, vi (if a < b then b else a)) :: e) w) : RawR K P (some d) (.call ⟨.builtin .max, #[x, y], ts⟩) t e w g g' := by
  refine raw_value (v := vi (if a < b then b else a)) (w' := w) ?_ ?_ h
  · show (opds e [x, y]).isSome = true
    rw [opds_cons hx (opds_cons hy (opds_nil e))]; rfl
  · rw [raw_builtin]
    simp [builtin, evd_of hx, evd_of hy, Builtin.max_, Builtin.max2]

/-- a call of a function without a body -/
theorem ext_rule {K : Env → World → Prop} {P : Program} {d f t : Nat} {xs : Array Operand} {ts : Array TypeId} {fn : Func} {en : Array Value → Sem Value} {vs : List Value} {r : Value} {e : Env} {w w' : World} {g : Tg K} {g' : Tg (Op.call ⟨.value (.func f), xs, ts⟩)}
    (hf : P.funcs[f]? = some fn) (hname : (fn.name == "runtime.NumGoroutine") = false) (hb : fn.body.isNone = true) (hn : Extern.findNext fn = none) (he : Extern.find fn = some en)
    (hx : opds e xs.toList = some vs) (hr : (en vs.toArray).run P w = .ok r w') (h : K ((d, r) :: e) w') : RawR K P (some d) (.call ⟨.value (.func f), xs, ts⟩) t e w g g' := by
  have hm : xs.map (evd e) = vs.toArray := by
    have hgen : ∀ (l : List Operand) (vs : List Value), opds e l = some vs → l.map (evd e) = vs := by
      intro l
      induction l with
      | nil => intro vs h; simp [opds] at h; simp [h]
      | cons x l ih =>
        intro vs h
        simp only [opds] at h
        cases h1 : opd e x with
        | none => simp [h1] at h
        | some v =>
          cases h2 : opds e l with
          | none => simp [h1, h2] at h
          | some us => simp [h1, h2] at h; subst h; simp [evd_of h1, ih us h2]
    apply Array.ext'
    simp [hgen _ _ hx]
  refine raw_value (v := r) (w' := w') ?_ ?_ h
  · have : (Op.call ⟨.value (.func f), xs, ts⟩).operands.toList = .func f :: xs.toList := by simp [Op.operands, Call.operands]
    rw [this, opds_cons (v := .func (.func f) #[] #[]) rfl hx]; rfl
  · simp only [execOp, resolve, hm, evd, opd, Option.getD_some, Deferred.ofValue, Sem.run_bind, Sem.run_pure, Result.andThen_ok, invoke]
    have := run_callFunc_extern hf hname hb hn he (#[] ++ vs.toArray ++ #[]) w
    rw [this, Array.append_empty, Array.empty_append, hr]
    rfl
end Go.Lk
