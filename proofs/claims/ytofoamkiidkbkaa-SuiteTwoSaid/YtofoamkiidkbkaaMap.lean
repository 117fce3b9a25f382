/- Maps, structs as their keys, literals of slices of structs; what stays where nobody writes. No statement of the seat is proved in this text. -/
import Derived.Test.YtofoamkiidkbkaaRaw2
import Derived.MapKept
import Derived.Laws.StructEq
set_option linter.unusedSimpArgs false
set_option linter.unusedVariables false
set_option linter.unusedSectionVars false
set_option linter.unnecessarySimpa false
namespace Go.Lk

/-! ### what holds as long as no block of F is written -/
def Im (F : Nat → Prop) (A : Hp → Prop) (h : Hp) : Prop := ∀ h' : Hp, (∀ k, k < h.size → ¬ F k → h'[k]? = h[k]?) → A h'

theorem Im.now {F : Nat → Prop} {A : Hp → Prop} {h : Hp} (hi : Im F A h) : A h := hi h fun _ _ _ => rfl
theorem Im.step {F F' : Nat → Prop} {A : Hp → Prop} {w w' : World} (hi : Im F A w.heap) (hf : Fr F w w') (hF : ∀ k, F' k → F k ∨ w.heap.size ≤ k) : Im F' A w'.heap := fun h'' hh =>
  hi h'' fun k hk hn => by
    rw [hh k (Nat.lt_of_lt_of_le hk hf.size) (fun h => (hF k h).elim hn (fun h => by omega)), hf.block k hk hn]
theorem Im.ex {F : Nat → Prop} {A : Hp → Prop} {w w' : World} (hi : Im F A w.heap) (he : Ex w w') : Im F A w'.heap := hi.step he.to (fun k h => .inl h)
theorem Im.mono {F : Nat → Prop} {A B : Hp → Prop} {h : Hp} (hi : Im F A h) (hab : ∀ h, A h → B h) : Im F B h := fun h' hh => hab _ (hi h' hh)
theorem Im.and {F : Nat → Prop} {A B : Hp → Prop} {h : Hp} (ha : Im F A h) (hb : Im F B h) : Im F (fun h => A h ∧ B h) h := fun h' hh => ⟨ha h' hh, hb h' hh⟩
theorem Im.sub {F F' : Nat → Prop} {A : Hp → Prop} {h : Hp} (hi : Im F A h) (hF : ∀ k, k < h.size → F' k → F k) : Im F' A h := fun h' hh => hi h' fun k hk hn => hh k hk (fun h => hn (hF k hk h))
/-- the same footprint, another's steps -/
theorem Im.fr {F M : Nat → Prop} {A : Hp → Prop} {w w' : World} (hi : Im F A w.heap) (hf : Fr M w w') (hM : ∀ k, k < w.heap.size → M k → F k) : Im F A w'.heap := fun h'' hh =>
  hi h'' fun k hk hn => by
    rw [hh k (Nat.lt_of_lt_of_le hk hf.size) hn, hf.block k hk (fun h => hn (hM k hk h))]

theorem Rd.of {h h' : Hp} {sz n : Nat} {v : Value} {xs : List Value} (hr : Rd h sz v n xs) (hs : 0 < n → ∀ b, v.ownBlock = some b → b < h.size → h'[b]? = h[b]?) : Rd h' sz v n xs := by
  obtain ⟨a, c, rfl, hc, hl, hx⟩ := hr
  refine ⟨a, c, rfl, hc, hl, fun hn => ?_⟩
  obtain ⟨b, o, rfl, cs, E, fr, h1, h2⟩ := hx hn
  have hb := (Array.getElem?_eq_some_iff.1 h1).1
  exact ⟨b, o, rfl, cs, E, fr, by rw [hs hn b rfl hb]; exact h1, h2⟩
theorem Bs.im {F : Nat → Prop} {h : Hp} {v : Value} {l : List UInt8} (hb : Bs h v l) (hF : l ≠ [] → ∀ k, v.ownBlock = some k → ¬ F k) : Im F (fun h => Bs h v l) h := fun h' hh =>
  Rd.of hb fun hn b hv hlt => hh b hlt (hF (List.length_pos_iff.1 hn) b hv)
theorem Cw.im {F : Nat → Prop} {h : Hp} {b : Nat} {xs : List Value} (hc : Cw h b xs) (hF : ¬ F b) : Im F (fun h => Cw h b xs) h := fun h' hh => by
  have hb := hc.lt
  obtain ⟨cs, E, fr, h1, h2⟩ := hc
  exact ⟨cs, E, fr, by rw [hh b hb hF]; exact h1, h2⟩

/-! ### literals of slices, elements of any size -/
theorem foldl_set (l : List Value) : ∀ (i o : Nat) (cs : Array Value), o + i + l.length ≤ cs.size →
    ((l.zipIdx i).foldl (fun cs (c, j) => cs.setIfInBounds (o + j) c) cs).toList = cs.toList.take (o + i) ++ l ++ cs.toList.drop (o + i + l.length) := by
  induction l with
  | nil => intro i o cs _; simp
  | cons x r ih =>
    intro i o cs h
    simp only [List.length_cons] at h
    simp only [List.zipIdx_cons, List.foldl_cons]
    rw [ih (i + 1) o _ (by simp; omega)]
    rw [Array.toList_setIfInBounds, ← Nat.add_assoc, List.take_set, List.take_succ_eq_append_getElem (by simp; omega)]
    rw [List.set_append_right _ _ (by simp; omega), List.drop_set_of_lt (by omega)]
    simp only [List.length_take, Array.length_toList, Nat.min_eq_left (show o + i ≤ cs.size by omega), Nat.sub_self, List.set_cons_zero, List.length_cons]
    rw [show o + i + (r.length + 1) = o + i + 1 + r.length by omega]
    simp

theorem filln (sz : Nat) : ∀ (vs : List Value) (k : Nat) (cells : Array Value), (k + vs.length) * sz ≤ cells.size → (∀ v ∈ vs, v.cells.size = sz) →
    ∃ cs, Instr.fill (fun i => some (i * sz, sz)) cells ((vs.zipIdx k).map fun (v, i) => (i, v)) = some cs ∧ cs.toList = cells.toList.take (k * sz) ++ vs.flatMap (fun v => v.cells.toList) ++ cells.toList.drop ((k + vs.length) * sz)
  | [], k, cells, hk, _ => ⟨cells, rfl, by simp⟩
  | v :: r, k, cells, hk, hz => by
    have hv := hz v (by simp)
    have hle : k * sz + sz ≤ cells.size := by
      have : (k + 1) * sz ≤ (k + (v :: r).length) * sz := Nat.mul_le_mul_right _ (by simp)
      rw [Nat.add_mul, Nat.one_mul] at this
      omega
    simp only [List.zipIdx_cons, List.map_cons, Instr.fill]
    rw [if_neg (by simp [hv]; omega)]
    have hf := foldl_set v.cells.toList 0 (k * sz) cells (by simp [hv]; omega)
    simp only [Nat.add_zero, Array.length_toList, hv] at hf
    generalize hg : (v.cells.zipIdx.foldl (fun cs (x : Value × Nat) => match x with | (c, j) => cs.setIfInBounds (k * sz + j) c) cells) = g
    have hgl : g.toList = cells.toList.take (k * sz) ++ v.cells.toList ++ cells.toList.drop (k * sz + sz) := by
      rw [← hf, ← hg, ← Array.foldl_toList]
      simp
    have hgs : g.size = cells.size := by
      have := congrArg List.length hgl
      simp [hv] at this
      omega
    obtain ⟨cs, h1, h2⟩ := filln sz r (k + 1) g (by rw [hgs]; simpa [Nat.add_assoc, Nat.add_comm 1] using hk) (fun x hx => hz x (by simp [hx]))
    refine ⟨cs, h1, ?_⟩
    rw [h2, hgl]
    have e1 : (k + 1) * sz = k * sz + sz := by rw [Nat.add_mul, Nat.one_mul]
    have hlen : (cells.toList.take (k * sz) ++ v.cells.toList).length = (k + 1) * sz := by simp [hv, e1]; omega
    have e2 : (k + 1 + r.length) * sz = k * sz + sz + r.length * sz := by rw [Nat.add_mul, e1]
    have e3 : (k + (v :: r).length) * sz = k * sz + sz + r.length * sz := by
      rw [List.length_cons, show k + (r.length + 1) = k + 1 + r.length by omega, e2]
    rw [List.take_append_of_le_length (by omega), List.take_of_length_le (by omega), e2, e3]
    rw [List.drop_append, List.drop_eq_nil_of_le (by omega), List.nil_append, List.drop_drop, hlen, e1]
    simp only [List.flatMap_cons, List.append_assoc]
    congr 4
    omega

theorem opds_map {e : Env} : ∀ {xs : List Operand} {vs : List Value}, opds e xs = some vs → xs.map (evd e) = vs
  | [], vs, h => by simp [opds] at h; simp [h]
  | x :: r, vs, h => by
    simp only [opds] at h
    cases h1 : opd e x with
    | none => simp [h1] at h
    | some v =>
      cases h2 : opds e r with
      | none => simp [h1, h2] at h
      | some us => simp [h1, h2] at h; subst h; simp [evd_of h1, opds_map h2]

/-- a slice's literal: elements of sz cells -/
theorem litn_rule {K : Env → World → Prop} {P : Program} {d T et sz bytes t n : Nat} {z : List Value} {parts : Array (Nat × Operand)} {xs : List Operand} {vs : List Value} {e : Env} {w : World} {g : Tg K} {g' : Tg (Op.buildSlice T n parts)}
    (he : El P T et z sz bytes) (hp : parts.toList = xs.zipIdx.map fun (v, i) => (i, v)) (hn : xs.length = n) (h0 : 0 < n) (hx : opds e xs = some vs) (hz : ∀ v ∈ vs, v.cells.size = sz) (hn' : n * sz ≤ 16777216)
    (h : ∀ b w', w.heap.size = b → Cw w'.heap b (vs.flatMap fun v => v.cells.toList) → Ex w w' → w'.heap.size = w.heap.size + 1 → K ((d, .slice (some ⟨b, 0, none⟩) n n) :: e) w') : RawR K P (some d) (.buildSlice T n parts) t e w g g' := by
  obtain ⟨hu, ⟨i, zv', hi, hzz, hzc, hs, hby⟩, hpos, hlen⟩ := he
  have hev := opds_map hx
  have hvn : vs.length = n := by rw [← hev, List.length_map, hn]
  have hpa : parts = (xs.zipIdx.map fun (v, i) => (i, v)).toArray := by rw [← hp]
  have hpv : (parts.map fun (i, x) => (i, evd e x)).toList = vs.zipIdx.map fun (v, i) => (i, v) := by
    rw [hpa, ← hev]
    simp only [List.map_toArray, List.map_map]
    rw [List.zipIdx_map]
    simp only [List.map_map]
    rfl
  have hops : parts.toList.map (fun p : Nat × Operand => p.2) = xs := by
    rw [hpa]
    simp [List.map_map, Function.comp_def]
  have hlz : zv'.cells.size = sz := by have := congrArg List.length hzc; simp at this; omega
  obtain ⟨cs, hf1, hf2⟩ := filln sz vs 0 ((Array.range (n * sz)).map (zv'.cells[· % zv'.cells.size]!)) (by simp [hvn]) hz
  have hcs : cs.toList = vs.flatMap fun v => v.cells.toList := by
    rw [hf2]
    simp only [Nat.zero_mul, List.take_zero, List.nil_append, Nat.zero_add, hvn]
    rw [List.drop_eq_nil_of_le (by simp), List.append_nil]
  refine raw_value (v := .slice (some ⟨w.heap.size, 0, none⟩) n n) (w' := { w with heap := w.heap.push (.cells cs et) }) ?_ ?_ (h _ _ rfl (by have := push_cw w cs et; rw [hcs] at this; exact this) (push_ex _ _) (by simp))
  · show (opds e (parts.toList.map (fun p : Nat × Operand => p.2)).toArray.toList).isSome = true
    rw [List.toList_toArray, hops]
    simp [hx]
  · simp only [execOp, Instr.buildSlice, Sem.run_bind, und_run hu, Result.andThen_ok, sizeOf, typeInfo, run_program, hi, Sem.run_pure, hs]
    have hne : n * sz ≠ 0 := by
      intro h
      rcases Nat.mul_eq_zero.1 h with h | h <;> omega
    rw [if_neg (by omega), if_neg hne]
    simp only [Sem.run_bind, zeroValue, typeInfo, run_program, hi, Sem.run_pure, Result.andThen_ok, hzz, hpv, hf1, newRow, run_newObj]
end Go.Lk
