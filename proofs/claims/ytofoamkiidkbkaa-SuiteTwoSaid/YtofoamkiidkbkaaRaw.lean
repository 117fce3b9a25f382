/- Rules of the operations that make memory, and of append. No statement of the seat is proved in this text. -/
import Derived.Test.YtofoamkiidkbkaaMem
set_option linter.unusedSimpArgs false
set_option linter.unusedVariables false
set_option linter.unusedSectionVars false
set_option linter.unnecessarySimpa false
namespace Go.Lk

/-- What is known of a slice type: its element type, the element's zero cells, their number, its bytes. -/
structure El (P : Program) (T et : Nat) (z : List Value) (sz bytes : Nat) : Prop where
  und : P.underlying T = some (.slice et)
  info : ∃ i zv, P.info? et = some i ∧ i.zero = some zv ∧ zv.cells.toList = z ∧ i.size = sz ∧ i.bytes = bytes
  pos : 0 < sz
  len : z.length = sz

theorem El.mk' {P : Program} {T et : Nat} {zv : Value} {sz bytes : Nat} (z : List Value) (h1 : P.underlying T = some (.slice et)) (h2 : (P.info? et).map (fun i => (i.zero, i.size, i.bytes)) = some (some zv, sz, bytes)) (h3 : zv.cells.toList = z) (h4 : z.length = sz) (h5 : 0 < sz) : El P T et z sz bytes := by
  obtain ⟨i, hi, h⟩ := Option.map_eq_some_iff.1 h2
  simp only [Prod.mk.injEq] at h
  exact ⟨h1, ⟨i, zv, hi, h.1, h3, h.2.1, h.2.2⟩, h5, h4⟩

theorem raw_value {K : Env → World → Prop} {P : Program} {d : Option Nat} {op : Op} {t : Nat} {e : Env} {w : World} {g : Tg K} {g' : Tg op} (hk : (opds e op.operands.toList).isSome = true) {v : Value} {w' : World}
    (hr : (execOp (evd e) ⟨d, op, t, "", #[], none⟩).run P w = .ok (.value v) w') (h : K (bnd e d v) w') : RawR K P d op t e w g g' := by
  refine ⟨hk, ?_⟩
  rw [hr]
  exact h

theorem evd_of {e : Env} {x : Operand} {v : Value} (h : opd e x = some v) : evd e x = v := by simp [evd, h]

/-- n times the zero cells -/
def reps (n : Nat) (z : List Value) : List Value := (List.replicate n z).flatten

theorem reps_length (n : Nat) (z : List Value) : (reps n z).length = n * z.length := by simp [reps]
theorem reps_one (n : Nat) (v : Value) : reps n [v] = List.replicate n v := by
  induction n with
  | zero => rfl
  | succ n ih => simp only [reps, List.replicate_succ, List.flatten_cons] at ih ⊢; rw [ih]; rfl

theorem mod_cells (z : List Value) (zs : Array Value) (hz : zs.toList = z) (hpos : 0 < z.length) (n : Nat) : ((Array.range (n * z.length)).map (zs[· % z.length]!)).toList = reps n z := by
  apply List.ext_getElem?
  intro i
  have hsz : zs.size = z.length := by rw [← hz]; simp
  by_cases hi : i < n * z.length
  · have h1 : (reps n z)[i]? = z[i % z.length]? := by
      clear hz hsz
      induction n generalizing i with
      | zero => simp at hi
      | succ n ih =>
        simp only [reps, List.replicate_succ, List.flatten_cons]
        by_cases hlt : i < z.length
        · rw [List.getElem?_append_left hlt, Nat.mod_eq_of_lt hlt]
        · have hge : z.length ≤ i := by omega
          rw [List.getElem?_append_right hge]
          have := ih (i - z.length) (by rw [Nat.succ_mul] at hi; omega)
          simp only [reps] at this
          rw [this, ← Nat.mod_eq_sub_mod hge]
    rw [h1]
    have hm : i % z.length < z.length := Nat.mod_lt _ hpos
    have hzi : zs[i % z.length]! = z[i % z.length] := by
      subst hz
      simp only [Array.length_toList] at hm ⊢
      rw [getElem!_pos zs _ (by simpa using hm)]
      simp
    simp [hi, hzi, hm]
  · rw [List.getElem?_eq_none (by simp; omega), List.getElem?_eq_none (by rw [reps_length]; omega)]

theorem Result.andThen_assoc {α β γ : Type} (r : Result α) (f : α → World → Result β) (g : β → World → Result γ) : (r.andThen f).andThen g = r.andThen fun a w => (f a w).andThen g := by
  cases r <;> rfl

theorem mks_rule {K : Env → World → Prop} {P : Program} {d T et sz bytes t n c : Nat} {z : List Value} {l x : Operand} {e : Env} {w : World} {g : Tg K} {g' : Tg (Op.makeSlice T l x)} (he : El P T et z sz bytes)
    (hl : opd e l = some (vi n)) (hx : opd e x = some (vi c)) (hc : n ≤ c) (hb : bytes * c ≤ 281474976710656) (hm : c < 9223372036854775808)
    (h : ∀ b w', w.heap.size = b → Cw w'.heap b (reps c z) → Ex w w' → w'.heap.size = w.heap.size + 1 → K ((d, .slice (some ⟨b, 0, none⟩) n c) :: e) w') : RawR K P (some d) (.makeSlice T l x) t e w g g' := by
  obtain ⟨hu, ⟨i, zv, hi, hz, hzc, hs, hby⟩, hpos, hlen⟩ := he
  refine raw_value (v := .slice (some ⟨w.heap.size, 0, none⟩) n c) (w' := { w with heap := w.heap.push (.cells ((Array.range (c * z.length)).map (zv.cells[· % z.length]!)) et) }) ?_ ?_ (h _ _ rfl ?_ (push_ex _ _) (by simp))
  · show (opds e [l, x]).isSome = true
    rw [opds_cons hl (opds_cons hx (opds_nil e))]; rfl
  · have h1 : IntKind.i64.wrap (n : Int) = n := wrap64_id (by omega) (by omega)
    have h2 : IntKind.i64.wrap (c : Int) = c := wrap64_id (by omega) (by omega)
    subst hlen
    have hguard : (decide ((c : Int) < 0) || decide ((bytes : Int) * c > 2 ^ 48) || decide ((n : Int) < 0) || decide ((n : Int) > c)) = false := by
      have : ((bytes * c : Nat) : Int) ≤ ((281474976710656 : Nat) : Int) := Int.ofNat_le.2 hb
      rw [Int.natCast_mul] at this
      have e1 : (2 : Int) ^ 48 = 281474976710656 := by decide
      have a1 : decide ((c : Int) < 0) = false := by rw [decide_eq_false_iff_not]; omega
      have a2 : decide ((bytes : Int) * c > 2 ^ 48) = false := by rw [decide_eq_false_iff_not, e1]; omega
      have a3 : decide ((n : Int) < 0) = false := by rw [decide_eq_false_iff_not]; omega
      have a4 : decide ((n : Int) > c) = false := by rw [decide_eq_false_iff_not]; omega
      rw [a1, a2, a3, a4]; rfl
    have hcsz : zv.cells.size = z.length := by rw [← hzc]; simp
    simp only [execOp, Instr.makeSlice, evd_of hl, evd_of hx, Sem.run_bind, und_run hu, Result.andThen_ok, asInt, asIntOf, Sem.run_pure, typeInfo, run_program, hi, hby, h1, h2]
    rw [hguard]
    simp only [Bool.false_eq_true, if_false, Sem.run_bind, run_askRoom, Result.andThen_ok, sizeOf, typeInfo, run_program, hi, Sem.run_pure, hs, Int.toNat_natCast]
    by_cases hc0 : c * z.length = 0
    · rw [if_pos hc0, hc0]
      have hr0 : ∀ f : Nat → Value, (Array.range 0).map f = #[] := fun f => by apply Array.ext'; simp
      simp only [Sem.run_bind, Sem.run_pure, Result.andThen_ok, newRow, run_newObj, hr0]
    · rw [if_neg hc0]
      simp only [Sem.run_bind, zeroValue, typeInfo, run_program, hi, Sem.run_pure, Result.andThen_ok, hz, newRow, run_newObj, hcsz]
  · have := push_cw w ((Array.range (c * z.length)).map (zv.cells[· % z.length]!)) et
    rw [mod_cells z zv.cells hzc (by omega)] at this
    exact this

theorem first_run {P : Program} {w : World} {sz m : Nat} {v : Value} {ys : List Value} (hr : Rd w.heap sz v m ys) : (Builtin.firstCells sz m v).run P w = .ok ys.toArray w := by
  obtain ⟨a, c, rfl, hc, hl, hx⟩ := id hr
  rcases Nat.eq_zero_or_pos m with h0 | h0
  · subst h0
    have : ys = [] := List.length_eq_zero_iff.1 (by simpa using hl)
    subst this
    cases a <;> simp [Builtin.firstCells, loadCells, loadCellsFrom]
  · obtain ⟨b, o, rfl, _⟩ := hx h0
    have := loadCellsFrom_run (P := P) (w := w) (a := ⟨b, o, none⟩) (m * sz) 0 #[] ys hl (fun j hj => by rw [Nat.zero_add, add_addr]; exact hr.cell hj)
    simpa [Builtin.firstCells, loadCells] using this

theorem putCells_cells : ∀ (l : List Value) (w : World) (b o i : Nat) (cs : Array Value) (E : Nat) (fr : Nat × Nat), w.heap[b]? = some (.cells cs E fr) → o + i + l.length ≤ cs.size →
    ∃ cs', (putCells w ⟨b, o, none⟩ l i).heap[b]? = some (.cells cs' E fr) ∧ cs'.size = cs.size ∧ ∀ j, cs'[j]? = if o + i ≤ j ∧ j < o + i + l.length then l[j - (o + i)]? else cs[j]?
  | [], w, b, o, i, cs, E, fr, h, _ => ⟨cs, h, rfl, fun j => by rw [if_neg (by simp)]⟩
  | v :: r, w, b, o, i, cs, E, fr, h, hl => by
    simp only [putCells, add_addr]
    have h1 : (w.setCell ⟨b, o + i, none⟩ v).heap[b]? = some (.cells (cs.setIfInBounds (o + i) v) E fr) := by
      simp [World.setCell, Array.getElem?_modify, h]
    simp only [List.length_cons] at hl
    obtain ⟨cs', h2, h3, h4⟩ := putCells_cells r _ b o (i + 1) _ E fr h1 (by simp; omega)
    refine ⟨cs', h2, by simpa using h3, fun j => ?_⟩
    rw [h4 j]
    by_cases hj : o + (i + 1) ≤ j ∧ j < o + (i + 1) + r.length
    · rw [if_pos hj, if_pos (by simp only [List.length_cons]; omega)]
      rw [show j - (o + i) = (j - (o + (i + 1))) + 1 by omega]
      simp
    · rw [if_neg hj]
      by_cases hji : j = o + i
      · subst hji
        rw [if_pos (by simp only [List.length_cons]; omega)]
        simp [show o + i < cs.size by omega]
      · rw [if_neg (by simp only [List.length_cons]; omega)]
        simp [Array.getElem?_setIfInBounds_ne (Ne.symm hji)]

theorem putCells_fr : ∀ (l : List Value) (w : World) (b o i : Nat), Fr (· = b) w (putCells w ⟨b, o, none⟩ l i)
  | [], w, b, o, i => Fr.refl w
  | v :: r, w, b, o, i => by
    simp only [putCells, add_addr]
    exact (setCell_fr w ⟨b, o + i, none⟩ v).trans (putCells_fr r _ b o (i + 1))

theorem len_run {P : Program} {w : World} (a : Option Addr) (n c : Nat) : (Builtin.lenOf (.slice a n c)).run P w = .ok n w := by simp [Builtin.lenOf]

/-- append(s, v...) : in place where there is room, else in a new block. -/
theorem append_run {P : Program} {T et sz bytes ty n m B : Nat} {z xs ys : List Value} {s v : Value} {w : World} (he : El P T et z sz bytes)
    (hs : Rd w.heap sz s n xs) (ho : Own B w.heap sz s) (hB : B ≤ w.heap.size) (hv : Rd w.heap sz v m ys) (hpl : ys.all plain = true) (hb : (n + m) * bytes ≤ 140737488355328) (hnm : n + m < 9223372036854775808) :
    ∃ s' w', (Builtin.append_ #[T, T] ty #[s, v]).run P w = .ok s' w' ∧ Rd w'.heap sz s' (n + m) (xs ++ ys) ∧ Own B w'.heap sz s' ∧ Fr (fun k => s.ownBlock = some k ∧ B ≤ k) w w' ∧
      (∀ b, s'.ownBlock = some b → s.ownBlock = some b ∨ w.heap.size ≤ b) := by
  obtain ⟨hu, ⟨i, zv, hi, hz, hzc, hsz, hby⟩, hpos, hlen⟩ := he
  have hfs := first_run (P := P) hs
  have hfv := first_run (P := P) hv
  have hfs' : ∀ w2 : World, w2.heap = w.heap → (Builtin.firstCells sz n s).run P w2 = .ok xs.toArray w2 := fun w2 h2 => first_run (by rw [h2]; exact hs)
  have hfv' : ∀ w2 : World, w2.heap = w.heap → (Builtin.firstCells sz m v).run P w2 = .ok ys.toArray w2 := fun w2 h2 => first_run (by rw [h2]; exact hv)
  obtain ⟨a, c, rfl, hc, hl, hx⟩ := id hs
  obtain ⟨a2, c2, rfl, hc2, hl2, hx2⟩ := id hv
  by_cases hroom : n + m ≤ c
  · by_cases hm : m = 0
    · subst hm
      have hys : ys = [] := List.length_eq_zero_iff.1 (by simpa using hl2)
      subst hys
      refine ⟨.slice a n c, w, ?_, by simpa using hs, ho, Fr.refl w, fun b hb => .inl hb⟩
      unfold Builtin.append_
      simp only [List.getElem?_toArray, List.getElem?_cons_zero, List.getElem?_cons_succ, Sem.run_bind, und_run hu, Result.andThen_ok, sizeOf, typeInfo, run_program, hi, Sem.run_pure, Bool.false_eq_true, if_false, len_run, hsz]
      rw [if_pos hroom]
      simp only [Bool.not_false, if_true, Sem.run_bind, hfv, Result.andThen_ok]
      cases a <;> simp [storeCells]
    · obtain ⟨b, o, cs, E, fr, rfl, hBb, hcell, hcap, hfr⟩ := ho a n c rfl (by omega)
      have hmul : n * sz + m * sz ≤ c * sz := by rw [← Nat.add_mul]; exact Nat.mul_le_mul_right _ hroom
      have hexist : ∀ j, j < ys.length → (w.cell? ⟨b, o + n * sz + j, none⟩).isSome = true ∧ w.frozen? ⟨b, o + n * sz + j, none⟩ = false := by
        intro j hj
        have hlt : o + n * sz + j < cs.size := by omega
        refine ⟨by simp [World.cell?, hcell, hlt], ?_⟩
        obtain ⟨lo, hi'⟩ := fr
        simp only [World.frozen?, hcell]
        simp only [Bool.and_eq_false_iff, decide_eq_false_iff_not]
        simp only [] at hfr
        omega
      have hput := putCells_run (P := P) (a := ⟨b, o + n * sz, none⟩) ys 0 w hpl (fun j hj => by rw [Nat.zero_add, add_addr]; exact hexist j hj)
      obtain ⟨cs', h2, h3, h4⟩ := putCells_cells ys w b (o + n * sz) 0 cs E fr hcell (by omega)
      have hfrm := putCells_fr ys w b (o + n * sz) 0
      refine ⟨.slice (some ⟨b, o, none⟩) (n + m) c, _, ?_, ⟨_, c, rfl, hroom, by simp [hl, hl2, Nat.add_mul], fun _ => ⟨b, o, rfl, cs', E, fr, h2, fun j hj => ?_⟩⟩, ?_, hfrm.mono (fun k _ hk => ⟨by rw [hk]; rfl, by rw [hk]; exact hBb⟩), fun b' hb' => .inl hb'⟩
      · unfold Builtin.append_
        simp only [List.getElem?_toArray, List.getElem?_cons_zero, List.getElem?_cons_succ, Sem.run_bind, und_run hu, Result.andThen_ok, sizeOf, typeInfo, run_program, hi, Sem.run_pure, Bool.false_eq_true, if_false, len_run, hsz]
        rw [if_pos hroom]
        simp only [Bool.not_false, if_true, Sem.run_bind, hfv, Result.andThen_ok, add_addr, hput]
        rfl
      · rw [h4]
        by_cases hjn : j < n * sz
        · rw [if_neg (by omega), List.getElem?_append_left (by omega)]
          obtain ⟨b', o', ha, cs0, E0, fr0, h5, h6⟩ := hx (by
            rcases Nat.eq_zero_or_pos n with h0 | h0
            · subst h0; simp at hjn
            · exact h0)
          injection ha with ha; injection ha with hb1 ho1
          subst hb1; subst ho1
          rw [hcell] at h5
          injection h5 with h5; injection h5 with h5
          subst h5
          exact h6 j hjn
        · rw [Nat.add_mul] at hj
          rw [if_pos (by omega), List.getElem?_append_right (by omega)]
          congr 1
          omega
      · intro a' n' c' hv' hlt
        injection hv' with e1 e2 e3
        subst e1; subst e2; subst e3
        exact ⟨b, o, cs', E, fr, rfl, hBb, h2, by omega, by rw [h3]; exact hfr⟩
  · have hfit := growslice_fits (bytes := bytes) (show c < n + m by omega) hb
    let nc := grownCap w (n + m) c et
    let cells : Array Value := xs.toArray ++ ys.toArray ++ Builtin.zeroCells zv.cells (nc - (n + m))
    have hnew : (w.drew.alloc (.cells cells et)).heap[w.heap.size]? = some (.cells cells et) := heap_alloc_new w.drew _
    have hold : ∀ k, k < w.heap.size → (w.drew.alloc (.cells cells et)).heap[k]? = w.heap[k]? := fun k hk => heap_alloc_old w.drew _ hk
    have hge : n + m ≤ nc := grownCap_ge w _ _ _
    have hzsz : zv.cells.size = sz := by rw [← hlen, ← hzc]; simp
    have hcsz : cells.size = nc * sz := by
      simp only [cells, Array.size_append, List.size_toArray, hl, hl2, Builtin.zeroCells, Array.size_map, Array.size_range, hzsz]
      rw [← Nat.add_mul, ← Nat.add_mul]
      congr 1
      omega
    refine ⟨.slice (some ⟨w.heap.size, 0, none⟩) (n + m) nc, w.drew.alloc (.cells cells et), ?_, ⟨_, nc, rfl, hge, by simp [hl, hl2, Nat.add_mul], fun _ => ⟨_, 0, rfl, cells, et, (0, 0), hnew, fun j hj => ?_⟩⟩, ?_, ?_, fun b hb => .inr (by simp [Value.ownBlock] at hb; omega)⟩
    · unfold Builtin.append_
      simp only [List.getElem?_toArray, List.getElem?_cons_zero, List.getElem?_cons_succ, Sem.run_bind, und_run hu, Result.andThen_ok, sizeOf, typeInfo, run_program, hi, Sem.run_pure, Bool.false_eq_true, if_false, len_run, hsz, hby]
      rw [if_neg hroom]
      have hmax : ¬ ((9223372036854775807 : Int) < ((n : Int) + (m : Int))) := by omega
      have h48 : ¬ (281474976710656 < Builtin.nextslicecap (n + m) c * bytes) := by omega
      have hfs2 := hfs' w.drew rfl
      have hfv2 := hfv' w.drew rfl
      simp [zeroValue, typeInfo, hi, hz, hby, hmax, h48, Question.forced, hfs2, hfv2, newRow, nc, cells, grownCap]
    · rw [Nat.zero_add]
      simp only [cells]
      rw [Nat.add_mul] at hj
      rw [Array.getElem?_append_left (by simp; omega)]
      simp
    · intro a' n' c' hv' hlt
      injection hv' with e1 e2 e3
      subst e1; subst e2; subst e3
      exact ⟨_, 0, cells, et, (0, 0), rfl, hB, hnew, by omega, .inl rfl⟩
    · exact ⟨rfl, rfl, rfl, by simp, fun k hk _ => hold k hk⟩

/-- n elements of sz cells, nobody else's from B on. -/
structure Nw (B : Nat) (h : Hp) (sz : Nat) (v : Value) (n : Nat) (xs : List Value) : Prop where
  rd : Rd h sz v n xs
  own : Own B h sz v
  from' : From B v

theorem Nw.fr {M : Nat → Prop} {w w' : World} {B sz n : Nat} {v : Value} {xs : List Value} (hn : Nw B w.heap sz v n xs) (hf : Fr M w w') (hM : ∀ b, v.ownBlock = some b → B ≤ b → b < w.heap.size → ¬ M b) : Nw B w'.heap sz v n xs :=
  ⟨hn.rd.fr hf (fun b hb hlt => hM b hb (hn.from' b hb) hlt), hn.own.fr hf hM, hn.from'⟩
theorem Nw.ex {w w' : World} {B sz n : Nat} {v : Value} {xs : List Value} (hn : Nw B w.heap sz v n xs) (hf : Ex w w') : Nw B w'.heap sz v n xs := hn.fr hf (fun _ _ _ _ h => h)
theorem Nw.mono {B B' sz n : Nat} {h : Hp} {v : Value} {xs : List Value} (hn : Nw B h sz v n xs) (hB : B' ≤ B) : Nw B' h sz v n xs := ⟨hn.rd, hn.own.mono hB, fun b hb => Nat.le_trans hB (hn.from' b hb)⟩
theorem New.nw {B : Nat} {h : Hp} {v : Value} {l : List UInt8} (hn : New B h v l) : Nw B h 1 v l.length (l.map w8) := ⟨hn.bs, hn.own, hn.from'⟩
theorem Nw.new {B n : Nat} {h : Hp} {v : Value} {l : List UInt8} (hn : Nw B h 1 v n (l.map w8)) (hl : n = l.length) : New B h v l := by subst hl; exact ⟨hn.rd, hn.own, hn.from'⟩
theorem Rd.nil (h : Hp) (sz : Nat) : Rd h sz (.slice none 0 0) 0 [] := ⟨none, 0, rfl, Nat.le_refl _, by simp, fun h => absurd h (by simp)⟩
theorem Nw.nil (B : Nat) (h : Hp) (sz : Nat) : Nw B h sz (.slice none 0 0) 0 [] := ⟨Rd.nil h sz, Own.full _ _, fun b hb => by simp [Value.ownBlock] at hb⟩

theorem Cw.rd {h : Hp} {b sz n : Nat} {xs : List Value} (hc : Cw h b xs) (hl : xs.length = n * sz) {c : Nat} (hnc : n ≤ c) : Rd h sz (.slice (some ⟨b, 0, none⟩) n c) n xs := by
  obtain ⟨cs, E, fr, h1, h2, h3⟩ := hc
  refine ⟨_, c, rfl, hnc, hl, fun _ => ⟨b, 0, rfl, cs, E, fr, h1, fun i _ => ?_⟩⟩
  subst h2
  simp
/-- a whole block as a slice, its room full -/
theorem Cw.nw {h : Hp} {B b sz n : Nat} {xs : List Value} (hc : Cw h b xs) (hl : xs.length = n * sz) (hB : B ≤ b) : Nw B h sz (.slice (some ⟨b, 0, none⟩) n n) n xs :=
  ⟨hc.rd hl (Nat.le_refl _), Own.full _ _, fun b' hb' => by simp [Value.ownBlock] at hb'; omega⟩
/-- the first n elements of a block, and room -/
theorem Cw.nw' {h : Hp} {B b sz n c : Nat} {xs : List Value} (hc : Cw h b xs) (hl : xs.length = c * sz) (hn : n ≤ c) (hB : B ≤ b) : Nw B h sz (.slice (some ⟨b, 0, none⟩) n c) n (xs.take (n * sz)) := by
  obtain ⟨cs, E, fr, h1, h2, h3⟩ := hc
  subst h2
  have hle : n * sz ≤ c * sz := Nat.mul_le_mul_right _ hn
  simp only [Array.length_toList] at hl
  refine ⟨⟨_, c, rfl, hn, by simp; omega, fun _ => ⟨b, 0, rfl, cs, E, fr, h1, fun i hi => ?_⟩⟩, fun a n' c' he _ => ?_, fun b' hb' => by simp [Value.ownBlock] at hb'; omega⟩
  · simp [List.getElem?_take, hi]
  · injection he with e1 e2 e3
    subst e1; subst e3
    exact ⟨b, 0, cs, E, fr, rfl, hB, h1, by omega, h3⟩

theorem raw_builtin {e : Env} {d : Option Nat} {b : Builtin} {xs : Array Operand} {ts : Array TypeId} {t : Nat} :
    execOp (evd e) ⟨d, .call ⟨.builtin b, xs, ts⟩, t, "", #[], none⟩ = builtin b ts t (xs.map fun | .const _ => true | _ => false) (xs.map (evd e)) := by
  rfl

theorem app_rule {K : Env → World → Prop} {P : Program} {d T et sz bytes ty n m B : Nat} {z xs ys : List Value} {s v : Value} {x y : Operand} {e : Env} {w : World} {g : Tg K} {g' : Tg (Op.call ⟨.builtin .append, #[x, y], #[T, T]⟩)}
    (he : El P T et z sz bytes) (hx : opd e x = some s) (hy : opd e y = some v) (hs : Nw B w.heap sz s n xs) (hB : B ≤ w.heap.size) (hv : Rd w.heap sz v m ys) (hpl : ys.all plain = true) (hb : (n + m) * bytes ≤ 140737488355328) (hnm : n + m < 9223372036854775808)
    (h : ∀ s' w', Nw B w'.heap sz s' (n + m) (xs ++ ys) → Fr (fun k => s.ownBlock = some k ∧ B ≤ k) w w' → (∀ b, s'.ownBlock = some b → s.ownBlock = some b ∨ w.heap.size ≤ b) → K ((d, s') :: e) w') :
    RawR K P (some d) (.call ⟨.builtin .append, #[x, y], #[T, T]⟩) ty e w g g' := by
  obtain ⟨s', w', hr, h1, h2, h3, h4⟩ := append_run (P := P) (ty := ty) he hs.rd hs.own hB hv hpl hb hnm
  refine raw_value (v := s') (w' := w') ?_ ?_ (h s' w' ⟨h1, h2, fun b hb => (h4 b hb).elim (hs.from' b) (fun hb => Nat.le_trans hB hb)⟩ h3 h4)
  · show (opds e [x, y]).isSome = true
    rw [opds_cons hx (opds_cons hy (opds_nil e))]; rfl
  · rw [raw_builtin]
    simp only [builtin, List.map_toArray, List.map_cons, List.map_nil, evd_of hx, evd_of hy, Sem.run_bind, hr, Result.andThen_ok, Sem.run_pure]

/-- append of bytes -/
theorem app_bytes {K : Env → World → Prop} {P : Program} {d T et bytes ty B : Nat} {z : List Value} {l r : List UInt8} {s v : Value} {x y : Operand} {e : Env} {w : World} {g : Tg K} {g' : Tg (Op.call ⟨.builtin .append, #[x, y], #[T, T]⟩)}
    (he : El P T et z 1 bytes) (hx : opd e x = some s) (hy : opd e y = some v) (hs : New B w.heap s l) (hB : B ≤ w.heap.size) (hv : Bs w.heap v r) (hb1 : bytes = 1) (hb : l.length + r.length ≤ 140737488355328)
    (h : ∀ s' w', New B w'.heap s' (l ++ r) → Fr (fun k => s.ownBlock = some k ∧ B ≤ k) w w' → (∀ b, s'.ownBlock = some b → s.ownBlock = some b ∨ w.heap.size ≤ b) → K ((d, s') :: e) w') :
    RawR K P (some d) (.call ⟨.builtin .append, #[x, y], #[T, T]⟩) ty e w g g' := by
  subst hb1
  refine app_rule he hx hy hs.nw hB hv (by simp [plain, w8]) (by omega) (by omega) fun s' w' h1 h2 h3 => h s' w' (Nw.new (by rw [List.map_append]; exact h1) (by simp)) h2 h3

theorem fill1 {f : Nat → Option (Nat × Nat)} (hf : ∀ i, f i = some (i, 1)) : ∀ (vs : List Value) (k : Nat) (cells : Array Value), k + vs.length = cells.size → vs.all plain = true →
    ∃ cs, Instr.fill f cells ((vs.zipIdx k).map fun (v, i) => (i, v)) = some cs ∧ cs.toList = cells.toList.take k ++ vs
  | [], k, cells, hk, _ => ⟨cells, rfl, by simp only [List.length_nil, Nat.add_zero] at hk; subst hk; rw [List.append_nil, List.take_of_length_le (by simp)]⟩
  | v :: r, k, cells, hk, hp => by
    simp only [List.all_cons, Bool.and_eq_true] at hp
    have hc : v.cells = #[v] := by cases v <;> first | rfl | (simp [plain] at hp)
    simp only [List.length_cons] at hk
    obtain ⟨cs, h1, h2⟩ := fill1 hf r (k + 1) (cells.setIfInBounds k v) (by simp; omega) hp.2
    refine ⟨cs, ?_, ?_⟩
    · simp only [List.zipIdx_cons, List.map_cons, Instr.fill, hf, hc]
      rw [if_neg (by simp; omega)]
      simpa using h1
    · rw [h2]
      have hlt : k < cells.size := by omega
      rw [Array.toList_setIfInBounds, List.take_set, List.take_succ_eq_append_getElem (by simpa using hlt)]
      rw [List.set_append_right _ _ (by simp; omega)]
      simp [Nat.min_eq_left (Nat.le_of_lt hlt)]

/-- a slice's literal: elements of one cell -/
theorem lit_rule {K : Env → World → Prop} {P : Program} {d T et bytes t n : Nat} {zv : Value} {parts : Array (Nat × Operand)} {xs : List Operand} {vs : List Value} {e : Env} {w : World} {g : Tg K} {g' : Tg (Op.buildSlice T n parts)}
    (he : El P T et [zv] 1 bytes) (hp : parts.toList = xs.zipIdx.map fun (v, i) => (i, v)) (hn : xs.length = n) (hx : opds e xs = some vs) (hpl : vs.all plain = true) (hn' : n ≤ 16777216)
    (h : ∀ b w', w.heap.size = b → Cw w'.heap b vs → Ex w w' → w'.heap.size = w.heap.size + 1 → K ((d, .slice (some ⟨b, 0, none⟩) n n) :: e) w') : RawR K P (some d) (.buildSlice T n parts) t e w g g' := by
  obtain ⟨hu, ⟨i, zv', hi, hz, hzc, hs, hby⟩, hpos, hlen⟩ := he
  have hvl : ∀ (xs : List Operand) (vs : List Value), opds e xs = some vs → xs.map (evd e) = vs ∧ vs.length = xs.length := by
    intro xs
    induction xs with
    | nil => intro vs h; simp [opds] at h; subst h; exact ⟨rfl, rfl⟩
    | cons x r ih =>
      intro vs h
      simp only [opds] at h
      cases h1 : opd e x with
      | none => simp [h1] at h
      | some v =>
        cases h2 : opds e r with
        | none => simp [h1, h2] at h
        | some us =>
          simp [h1, h2] at h
          subst h
          obtain ⟨h3, h4⟩ := ih us h2
          exact ⟨by simp [evd_of h1, h3], by simp [h4]⟩
  obtain ⟨hev, hvn⟩ := hvl xs vs hx
  have hpa : parts = (xs.zipIdx.map fun (v, i) => (i, v)).toArray := by rw [← hp]
  have hpv : (parts.map fun (i, x) => (i, evd e x)).toList = vs.zipIdx.map fun (v, i) => (i, v) := by
    rw [hpa, ← hev]
    simp only [List.map_toArray, List.map_map]
    rw [List.zipIdx_map]
    simp only [List.map_map]
    rfl
  have hops : parts.toList.map (fun p : Nat × Operand => p.2) = xs := by
    rw [hpa]
    simp [List.map_map, Function.comp_def]
  have hlz : zv'.cells.size = 1 := by have := congrArg List.length hzc; simpa using this
  obtain ⟨cs, hf1, hf2⟩ := fill1 (f := fun i => some (i * 1, 1)) (fun i => by simp) vs 0 ((Array.range (n * 1)).map (zv'.cells[· % zv'.cells.size]!)) (by simp; omega) hpl
  have hcs : cs.toList = vs := by simpa using hf2
  by_cases h0 : n = 0
  · subst h0
    have hv0 : vs = [] := List.length_eq_zero_iff.1 (by omega)
    subst hv0
    have hpe : parts = #[] := by rw [hpa]; simp [List.length_eq_zero_iff.1 hn]
    subst hpe
    refine raw_value (v := .slice (some ⟨w.heap.size, 0, none⟩) 0 0) (w' := { w with heap := w.heap.push (.cells #[] et) }) (by rfl) ?_ (h _ _ rfl (push_cw w #[] et) (push_ex _ _) (by simp))
    simp only [execOp, Instr.buildSlice, Sem.run_bind, und_run hu, Result.andThen_ok, sizeOf, typeInfo, run_program, hi, Sem.run_pure, hs]
    have hr0 : ∀ f : Nat → Value, (Array.range 0).map f = #[] := fun f => by apply Array.ext'; simp
    simp [Instr.fill, newRow, run_newObj, hr0]
  · refine raw_value (v := .slice (some ⟨w.heap.size, 0, none⟩) n n) (w' := { w with heap := w.heap.push (.cells cs et) }) ?_ ?_ (h _ _ rfl (by have := push_cw w cs et; rw [hcs] at this; exact this) (push_ex _ _) (by simp))
    · show (opds e (parts.toList.map (fun p : Nat × Operand => p.2)).toArray.toList).isSome = true
      rw [List.toList_toArray, hops]
      simp [hx]
    · simp only [execOp, Instr.buildSlice, Sem.run_bind, und_run hu, Result.andThen_ok, sizeOf, typeInfo, run_program, hi, Sem.run_pure, hs]
      rw [if_neg (by omega), if_neg (by omega)]
      simp only [Sem.run_bind, zeroValue, typeInfo, run_program, hi, Sem.run_pure, Result.andThen_ok, hz, hpv, hf1, newRow, run_newObj]

theorem freeze_cw {w : World} {b : Nat} {xs : List Value} {cs : Array Value} {E : Nat} (hc : w.heap[b]? = some (.cells cs E (0, 0))) (hx : cs.toList = xs) : Cw (w.freeze ⟨b, cs.size, none⟩ 1).heap b xs ∧ Fr (· = b) w (w.freeze ⟨b, cs.size, none⟩ 1) ∧ (w.freeze ⟨b, cs.size, none⟩ 1).heap.size = w.heap.size := by
  refine ⟨⟨cs, E, (cs.size, cs.size + 1), ?_, hx, .inr (Nat.le_refl _)⟩, ⟨rfl, rfl, rfl, ?_, fun k _ hk => ?_⟩, ?_⟩
  · simp [World.freeze, Array.getElem?_modify, hc]
  · simp [World.freeze]
  · simp only [World.freeze]
    rw [if_neg (by omega)]
    simp only [Array.getElem?_modify]
    rw [if_neg (fun h => hk h.symm)]
  · simp [World.freeze]

/-- the conversion of a literal of bytes to its own type -/
theorem conv_rule {K : Env → World → Prop} {P : Program} {d T et t b n : Nat} {x : Operand} {xs : List Value} {e : Env} {w : World} {g : Tg K} {g' : Tg (Op.convert T T x)}
    (hT : P.underlying T = some (.slice et)) (het : P.underlying et = some (.int .u8)) (hx : opd e x = some (.slice (some ⟨b, 0, none⟩) n n)) (hc : Cw w.heap b xs)
    (h : ∀ w', Cw w'.heap b xs → Fr (· = b) w w' → w'.heap.size = w.heap.size → K ((d, .slice (some ⟨b, 0, none⟩) n n) :: e) w') : RawR K P (some d) (.convert T T x) t e w g g' := by
  obtain ⟨cs, E, fr, h1, h2, h3⟩ := hc
  refine raw_value (v := .slice (some ⟨b, 0, none⟩) n n) (w' := w.freeze ⟨b, cs.size, none⟩ 1) ?_ ?_ (h _ ?_ ?_ ?_)
  · show (opds e [x]).isSome = true
    rw [opds_cons hx (opds_nil e)]; rfl
  · simp only [execOp, convert, Sem.run_bind, und_run hT, und_run het, Result.andThen_ok, evd_of hx]
    simp [markStringish, h1, World.shape?, und_run het]
  · refine ⟨cs, E, (if fr.1 == fr.2 then (cs.size, cs.size + 1) else (min fr.1 cs.size, max fr.2 (cs.size + 1))), ?_, h2, ?_⟩
    · obtain ⟨lo, hi⟩ := fr
      simp [World.freeze, Array.getElem?_modify, h1]
    · obtain ⟨lo, hi⟩ := fr
      by_cases hlh : lo = hi
      · subst hlh; simp
      · simp only [] at h3
        have : cs.size ≤ lo := by omega
        right
        simp [hlh]
        omega
  · refine ⟨rfl, rfl, rfl, by simp [World.freeze], fun k _ hk => ?_⟩
    simp only [World.freeze]
    rw [if_neg (by omega)]
    simp only [Array.getElem?_modify]
    rw [if_neg (fun h => hk h.symm)]
  · simp [World.freeze]
end Go.Lk
