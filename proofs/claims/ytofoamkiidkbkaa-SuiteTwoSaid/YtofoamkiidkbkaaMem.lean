/- What blocks and slices hold; the rules of the memory operations. No statement of the seat is proved in this text. -/
import Derived.Test.YtofoamkiidkbkaaStep
set_option linter.unusedSimpArgs false
set_option linter.unusedVariables false
set_option linter.unusedSectionVars false
set_option linter.unnecessarySimpa false
namespace Go.Lk

abbrev Hp := Array Obj

/-- Block b holds just these cells, and each may be written. -/
def Cw (h : Hp) (b : Nat) (xs : List Value) : Prop :=
  ∃ cs E fr, h[b]? = some (.cells cs E fr) ∧ cs.toList = xs ∧ (fr.1 = fr.2 ∨ cs.size ≤ fr.1)

theorem Cw.lt {h : Hp} {b : Nat} {xs : List Value} (hc : Cw h b xs) : b < h.size := by
  obtain ⟨cs, E, fr, h1, _⟩ := hc
  exact (Array.getElem?_eq_some_iff.1 h1).1

theorem Cw.cell {w : World} {b : Nat} {xs : List Value} (hc : Cw w.heap b xs) (i : Nat) : w.cell? ⟨b, i, none⟩ = xs[i]? := by
  obtain ⟨cs, E, fr, h1, h2, _⟩ := hc
  subst h2
  simp [World.cell?, h1]

theorem Cw.free {w : World} {b : Nat} {xs : List Value} (hc : Cw w.heap b xs) {i : Nat} (hi : i < xs.length) : w.frozen? ⟨b, i, none⟩ = false := by
  obtain ⟨cs, E, ⟨lo, hi'⟩, h1, h2, h3⟩ := hc
  subst h2
  simp only [World.frozen?, h1]
  simp only [Array.length_toList] at hi
  simp only [Bool.and_eq_false_iff, decide_eq_false_iff_not]
  simp only [] at h3
  omega

theorem Cw.fr {M : Nat → Prop} {w w' : World} {b : Nat} {xs : List Value} (hc : Cw w.heap b xs) (hf : Fr M w w') (hM : ¬ M b) : Cw w'.heap b xs := by
  have hb := hc.lt
  obtain ⟨cs, E, fr, h1, h2⟩ := hc
  exact ⟨cs, E, fr, by rw [hf.block b hb hM]; exact h1, h2⟩

theorem Cw.ex {w w' : World} {b : Nat} {xs : List Value} (hc : Cw w.heap b xs) (hf : Ex w w') : Cw w'.heap b xs := hc.fr hf (fun h => h)

/-- The slice v reads as n elements of sz cells each, all cells together xs. -/
def Rd (h : Hp) (sz : Nat) (v : Value) (n : Nat) (xs : List Value) : Prop :=
  ∃ a c, v = .slice a n c ∧ n ≤ c ∧ xs.length = n * sz ∧
    (0 < n → ∃ b o, a = some ⟨b, o, none⟩ ∧ ∃ cs E fr, h[b]? = some (.cells cs E fr) ∧ ∀ i, i < n * sz → cs[o + i]? = xs[i]?)

/-- The slice v reads as these bytes. -/
def Bs (h : Hp) (v : Value) (l : List UInt8) : Prop := Rd h 1 v l.length (l.map w8)

theorem Rd.fr {M : Nat → Prop} {w w' : World} {sz n : Nat} {v : Value} {xs : List Value} (hr : Rd w.heap sz v n xs) (hf : Fr M w w') (hM : ∀ b, v.ownBlock = some b → b < w.heap.size → ¬ M b) : Rd w'.heap sz v n xs := by
  obtain ⟨a, c, rfl, hc, hl, hx⟩ := hr
  refine ⟨a, c, rfl, hc, hl, fun hn => ?_⟩
  obtain ⟨b, o, rfl, cs, E, fr, h1, h2⟩ := hx hn
  have hb := (Array.getElem?_eq_some_iff.1 h1).1
  exact ⟨b, o, rfl, cs, E, fr, by rw [hf.block b hb (hM b rfl hb)]; exact h1, h2⟩

theorem Rd.ex {w w' : World} {sz n : Nat} {v : Value} {xs : List Value} (hr : Rd w.heap sz v n xs) (hf : Ex w w') : Rd w'.heap sz v n xs := hr.fr hf (fun _ _ _ h => h)
theorem Bs.ex {w w' : World} {v : Value} {l : List UInt8} (hr : Bs w.heap v l) (hf : Ex w w') : Bs w'.heap v l := Rd.ex hr hf
theorem Bs.fr {M : Nat → Prop} {w w' : World} {v : Value} {l : List UInt8} (hr : Bs w.heap v l) (hf : Fr M w w') (hM : ∀ b, v.ownBlock = some b → b < w.heap.size → ¬ M b) : Bs w'.heap v l := Rd.fr hr hf hM

theorem Rd.cell {w : World} {sz n c b o : Nat} {xs : List Value} (hr : Rd w.heap sz (.slice (some ⟨b, o, none⟩) n c) n xs) {i : Nat} (hi : i < n * sz) : w.cell? ⟨b, o + i, none⟩ = xs[i]? := by
  obtain ⟨a, c', he, _, _, hx⟩ := hr
  have hn : 0 < n := by
    rcases Nat.eq_zero_or_pos n with h0 | h0
    · subst h0; simp at hi
    · exact h0
  obtain ⟨b', o', ha, cs, E, fr, h1, h2⟩ := hx hn
  injection he with he1
  subst he1
  injection ha with ha
  injection ha with hb ho
  subst hb; subst ho
  simp only [World.cell?, h1]
  exact h2 i hi

/-- What a slice of bytes is made of. -/
theorem Bs.parts {h : Hp} {v : Value} {l : List UInt8} (hr : Bs h v l) : ∃ a c, v = .slice a l.length c ∧ l.length ≤ c ∧ (l ≠ [] → ∃ b o, a = some ⟨b, o, none⟩) := by
  obtain ⟨a, c, rfl, hc, _, hx⟩ := hr
  refine ⟨a, c, rfl, hc, fun hl => ?_⟩
  obtain ⟨b, o, ha, _⟩ := hx (List.length_pos_iff.2 hl)
  exact ⟨b, o, ha⟩

theorem Bs.at {w : World} {l : List UInt8} {b o c n : Nat} (hr : Bs w.heap (.slice (some ⟨b, o, none⟩) n c) l) {i : Nat} (hi : i < l.length) : w.cell? ⟨b, o + i, none⟩ = some (w8 (l.getD i 0)) := by
  obtain ⟨a, c', he, _⟩ := id hr
  injection he with _ he2 _
  subst he2
  rw [Rd.cell hr (by omega)]
  simp [List.getD, hi]

theorem Bs.bytes {w : World} {v : Value} {l : List UInt8} (hr : Bs w.heap v l) : bytesAt w v l := by
  obtain ⟨a, c, rfl, hc, hx⟩ := hr.parts
  cases a with
  | none =>
    show l = []
    cases l with
    | nil => rfl
    | cons x r => obtain ⟨b, o, h⟩ := hx (by simp); cases h
  | some ad =>
    refine ⟨rfl, fun i hi => ?_⟩
    obtain ⟨b, o, h⟩ := hx (by intro h; subst h; simp at hi)
    injection h with h
    subst h
    rw [add_addr, hr.at hi]
    simp [List.getD, hi]

theorem Bs.nil (h : Hp) : Bs h (.slice none 0 0) [] := ⟨none, 0, rfl, Nat.le_refl _, rfl, fun h => absurd h (by simp)⟩

/-- whatever may be appended in place is the call's own, from block B on -/
def Own (B : Nat) (h : Hp) (sz : Nat) (v : Value) : Prop :=
  ∀ a n c, v = .slice a n c → n < c → ∃ b o cs E fr, a = some ⟨b, o, none⟩ ∧ B ≤ b ∧ h[b]? = some (.cells cs E fr) ∧ o + c * sz ≤ cs.size ∧ (fr.1 = fr.2 ∨ cs.size ≤ fr.1)

theorem Own.full {B sz : Nat} {h : Hp} (a : Option Addr) (n : Nat) : Own B h sz (.slice a n n) := by
  intro a' n' c he hlt
  injection he with h1 h2 h3
  omega

theorem Own.fr {M : Nat → Prop} {w w' : World} {B sz : Nat} {v : Value} (ho : Own B w.heap sz v) (hf : Fr M w w') (hM : ∀ b, v.ownBlock = some b → B ≤ b → b < w.heap.size → ¬ M b) : Own B w'.heap sz v := by
  intro a n c hv hlt
  obtain ⟨b, o, cs, E, fr, rfl, hB, h1, h2⟩ := ho a n c hv hlt
  have hb := (Array.getElem?_eq_some_iff.1 h1).1
  subst hv
  exact ⟨b, o, cs, E, fr, rfl, hB, by rw [hf.block b hb (hM b rfl hB hb)]; exact h1, h2⟩

theorem Own.ex {w w' : World} {B sz : Nat} {v : Value} (ho : Own B w.heap sz v) (hf : Ex w w') : Own B w'.heap sz v := ho.fr hf (fun _ _ _ _ h => h)
theorem Own.mono {B B' sz : Nat} {h : Hp} {v : Value} (ho : Own B h sz v) (hB : B' ≤ B) : Own B' h sz v := fun a n c hv hlt => by
  obtain ⟨b, o, cs, E, fr, h0, h1, h2⟩ := ho a n c hv hlt
  exact ⟨b, o, cs, E, fr, h0, Nat.le_trans hB h1, h2⟩

/-- the block of a slice lies from B on -/
def From (B : Nat) (v : Value) : Prop := ∀ b, v.ownBlock = some b → B ≤ b

/-- Bytes that a call has made: nobody else has them. -/
structure New (B : Nat) (h : Hp) (v : Value) (l : List UInt8) : Prop where
  bs : Bs h v l
  own : Own B h 1 v
  from' : From B v

theorem New.fr {M : Nat → Prop} {w w' : World} {B : Nat} {v : Value} {l : List UInt8} (hn : New B w.heap v l) (hf : Fr M w w') (hM : ∀ b, v.ownBlock = some b → B ≤ b → b < w.heap.size → ¬ M b) : New B w'.heap v l :=
  ⟨hn.bs.fr hf (fun b hb hlt => hM b hb (hn.from' b hb) hlt), hn.own.fr hf hM, hn.from'⟩
theorem New.ex {w w' : World} {B : Nat} {v : Value} {l : List UInt8} (hn : New B w.heap v l) (hf : Ex w w') : New B w'.heap v l := hn.fr hf (fun _ _ _ _ h => h)
theorem New.mono {B B' : Nat} {h : Hp} {v : Value} {l : List UInt8} (hn : New B h v l) (hB : B' ≤ B) : New B' h v l := ⟨hn.bs, hn.own.mono hB, fun b hb => Nat.le_trans hB (hn.from' b hb)⟩
theorem New.nil (B : Nat) (h : Hp) : New B h (.slice none 0 0) [] := ⟨Bs.nil h, Own.full _ _, fun b hb => by simp [Value.ownBlock] at hb⟩

theorem Fr.mono {M M' : Nat → Prop} {w w' : World} (h : Fr M w w') (hM : ∀ k, k < w.heap.size → M k → M' k) : Fr M' w w' :=
  ⟨h.os, h.tape, h.output, h.size, fun k hk hn => h.block k hk (fun hm => hn (hM k hk hm))⟩
theorem Ex.to {M : Nat → Prop} {w w' : World} (h : Ex w w') : Fr M w w' := h.mono (fun _ _ h => h.elim)
/-- what was made since may be turned -/
theorem Fr.young {M : Nat → Prop} {w w1 w2 : World} (h1 : Ex w w1) (h2 : Fr M w1 w2) (hM : ∀ k, M k → w.heap.size ≤ k) : Ex w w2 :=
  ⟨h2.os.trans h1.os, h2.tape.trans h1.tape, h2.output.trans h1.output, Nat.le_trans h1.size h2.size,
    fun k hk _ => (h2.block k (Nat.lt_of_lt_of_le hk h1.size) (fun hm => by have := hM k hm; omega)).trans (h1.block k hk (fun h => h))⟩

/-! ### stores, loads, new variables -/
theorem setCell_fr (w : World) (a : Addr) (v : Value) : Fr (· = a.block) w (w.setCell a v) := by
  refine ⟨rfl, rfl, rfl, by simp [World.setCell], fun k _ hk => ?_⟩
  simp only [World.setCell, Array.getElem?_modify]
  rw [if_neg (fun h => hk h.symm)]

theorem setCell_cw {w : World} {b i : Nat} {xs : List Value} (hc : Cw w.heap b xs) (v : Value) : Cw (w.setCell ⟨b, i, none⟩ v).heap b (xs.set i v) := by
  obtain ⟨cs, E, fr, h1, h2, h3⟩ := hc
  refine ⟨cs.setIfInBounds i v, E, fr, ?_, by simp [h2], by simpa using h3⟩
  simp [World.setCell, Array.getElem?_modify, h1]

theorem store_rule {f : World → Prop} {w : World} {b i : Nat} {v : Value} {t : Tg f} {xs : List Value} (hc : Cw w.heap b xs) (hi : i < xs.length) (hp : plain v = true)
    (h : ∀ w', Cw w'.heap b (xs.set i v) → Fr (· = b) w w' → w'.heap.size = w.heap.size → f w') : StoreR f w (.pointer (some ⟨b, i, none⟩)) v t :=
  ⟨hp, by rw [hc.cell]; simp [hi], hc.free hi, h _ (setCell_cw hc v) (setCell_fr w ⟨b, i, none⟩ v) (by simp [World.setCell])⟩

theorem push_ex (w : World) (o : Obj) : Ex w { w with heap := w.heap.push o } := by
  refine ⟨rfl, rfl, rfl, by simp, fun k hk _ => ?_⟩
  simp [Array.getElem?_push, Nat.ne_of_lt hk]

theorem push_cw (w : World) (cs : Array Value) (E : Nat) : Cw ({ w with heap := w.heap.push (.cells cs E) } : World).heap w.heap.size cs.toList :=
  ⟨cs, E, (0, 0), by simp, rfl, .inl rfl⟩

theorem box_rule {f : Value → World → Prop} {w : World} {t : Nat} {v : Value} {g : Tg f}
    (h : ∀ b w', b = w.heap.size → Cw w'.heap b v.cells.toList → Ex w w' → w'.heap.size = w.heap.size + 1 → f (.pointer (some ⟨b, 0, none⟩)) w') : BoxR f w t v g :=
  h _ _ rfl (push_cw w v.cells t) (push_ex w _) (by simp)

theorem lda_rule {f : Value → Prop} {w : World} {b o n : Nat} {t : Tg f} (ys : List Value) (hl : ys.length = n) (hc : ∀ i, i < n → w.cell? ⟨b, o + i, none⟩ = ys[i]?) (h : f (.agg ys.toArray)) :
    LdaR f w (.pointer (some ⟨b, o, none⟩)) n t :=
  ⟨ys, hl, fun i hi => by rw [add_addr]; exact hc i hi, h⟩

theorem lda_cw {f : Value → Prop} {w : World} {b n : Nat} {t : Tg f} {xs : List Value} (hc : Cw w.heap b xs) (hl : xs.length = n) (h : f (.agg xs.toArray)) : LdaR f w (.pointer (some ⟨b, 0, none⟩)) n t :=
  lda_rule xs hl (fun i _ => by rw [Nat.zero_add, hc.cell]) h

theorem b2s_rule {f : Value → Prop} {w : World} {v : Value} {t : Tg f} {l : List UInt8} (hb : Bs w.heap v l) (h : f (ws l)) : B2sR f w v t := ⟨l, hb.bytes, h⟩

/-- A call, by its contract. -/
theorem call_rule {k : Value → World → Prop} {P : Program} {f : Nat} {vs : List Value} {w : World} {t : Tg k} {R : Ending → World → Prop} (hc : Calls P f vs.toArray w R)
    (h : ∀ en w', R en w' → ∃ v, en = .returned v ∧ k v w') : CallR k P f vs w t := hc.mono h
end Go.Lk
