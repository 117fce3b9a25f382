/- The suite, real or of signs: adding, sums, codes, keys. No statement of the seat is proved in this text. -/
import Derived.Test.YtofoamkiidkbkaaThing
import Derived.Test.YtofoamkiidkbkaaAead
import Derived.Laws.IdiomStrings
set_option linter.unusedSimpArgs false
set_option linter.unusedVariables false
set_option linter.unusedSectionVars false
set_option linter.unnecessarySimpa false
set_option maxRecDepth 10000
set_option maxHeartbeats 1000000
namespace Go.Lk

/-- a string turned into bytes of one's own -/
theorem s2b_rule {K : Env → World → Prop} {P : Program} {d S D et t : Nat} {x : Operand} {l : List UInt8} {e : Env} {w : World} {g : Tg K} {g' : Tg (Op.convert S D x)}
    (hS : P.underlying S = some .string) (hD : P.underlying D = some (.slice et)) (he : P.underlying et = some (.int .u8)) (hx : opd e x = some (ws l))
    (h : ∀ v w', New w.heap.size w'.heap v l → Ex w w' → (∀ k, v.ownBlock = some k → w.heap.size ≤ k) → K ((d, v) :: e) w') : RawR K P (some d) (.convert S D x) t e w g g' := by
  have hr := run_bytes_of_string (P := P) w S D et ⟨l.toArray⟩ hS hD he
  have hge : l.length ≤ grownCap w l.length 0 et := grownCap_ge w _ _ _
  have hsz : (ByteArray.mk l.toArray).size = l.length := by simp [ByteArray.size]
  rw [hsz] at hr
  have hrow : (bytesRow ⟨l.toArray⟩ (grownCap w l.length 0 et)).toList = l.map w8 ++ List.replicate (grownCap w l.length 0 et - l.length) (w8 0) := by
    simp [bytesRow, hsz, w8]
  have hrs : (bytesRow ⟨l.toArray⟩ (grownCap w l.length 0 et)).size = grownCap w l.length 0 et := by
    have := congrArg List.length hrow
    simp at this
    omega
  generalize grownCap w l.length 0 et = cap at *
  generalize bytesRow ⟨l.toArray⟩ cap = row at *
  have hnew : (w.drew.alloc (.cells row et (row.size, row.size + 1))).heap[w.heap.size]? = some (.cells row et (row.size, row.size + 1)) := heap_alloc_new w.drew _
  refine raw_value (v := .slice (some ⟨w.heap.size, 0, none⟩) l.length cap) (w' := w.drew.alloc (.cells row et (row.size, row.size + 1))) ?_ ?_ (h _ _ ⟨⟨_, cap, rfl, hge, by simp, fun _ => ⟨_, 0, rfl, row, et, _, hnew, fun i hi => ?_⟩⟩, ?_, ?_⟩ ?_ ?_)
  · show (opds e [x]).isSome = true
    rw [opds_cons hx (opds_nil e)]; rfl
  · simp only [execOp, evd_of hx, Sem.run_bind]
    have : (convert S D (ws l)).run P w = _ := hr
    rw [this]
    rfl
  · rw [Nat.zero_add, ← Array.getElem?_toList, hrow, List.getElem?_append_left (by simpa using hi)]
  · intro a' n' c' hv hlt
    injection hv with e1 e2 e3
    subst e1; subst e2; subst e3
    exact ⟨_, 0, row, et, _, rfl, Nat.le_refl _, hnew, by omega, .inr (Nat.le_refl _)⟩
  · intro b hb; simp [Value.ownBlock] at hb; omega
  · exact ⟨rfl, rfl, rfl, by simp, fun k hk _ => heap_alloc_old w.drew _ hk⟩
  · intro b hb; simp [Value.ownBlock] at hb; omega

/-! ### state -/
inductive Sst where
  | real (seed : List UInt8) (drawn : Nat)
  | signs (L : List Thing)

/-- what is known of a list: the sums and codes, by their numbers -/
def known : List Thing → Nat → List (Thing × Value)
  | [], _ => []
  | t :: r, i => if t.sort = 72 ∨ t.sort = 77 then (t, vi i) :: known r (i + 1) else known r (i + 1)
/-- a thing's number -/
def thIdx (t : Thing) : List Thing → Nat → Option Nat
  | [], _ => none
  | x :: r, i => if t = x then some i else thIdx t r (i + 1)

theorem known_app (t : Thing) : ∀ (L : List Thing) (i : Nat), known (L ++ [t]) i = known L i ++ (if t.sort = 72 ∨ t.sort = 77 then [(t, vi ((i + L.length : Nat) : Int))] else [])
  | [], i => by simp [known]
  | x :: r, i => by
    simp only [List.cons_append, known, known_app t r (i + 1), List.length_cons]
    rw [show i + 1 + r.length = i + (r.length + 1) by omega]
    split <;> simp
theorem getA_known {t : Thing} (ht : t.sort = 72 ∨ t.sort = 77) : ∀ (L : List Thing) (i j : Nat), (findA t (known L i) j).map (·.2) = (thIdx t L i).map fun n : Nat => vi (n : Int)
  | [], i, j => rfl
  | x :: r, i, j => by
    simp only [known, thIdx]
    by_cases hx : x.sort = 72 ∨ x.sort = 77
    · rw [if_pos hx]
      simp only [findA]
      by_cases h : t = x
      · rw [if_pos h, if_pos h]; rfl
      · rw [if_neg h, if_neg h]; exact getA_known ht r (i + 1) (j + 1)
    · rw [if_neg hx]
      have h : t ≠ x := fun h => hx (by rw [← h]; exact ht)
      rw [if_neg h]
      exact getA_known ht r (i + 1) j

structure SuG (h : Hp) (F : Nat → Prop) (b : Nat) (L : List Thing) (kn : List (Thing × Value)) : Prop where
  ex : ∃ lv mb, Cw h b [.bool false, .slice none 0 0, vi 0, lv, .map (some mb)] ∧ Nw 0 h 5 lv L.length (L.flatMap tcells) ∧ Mp h mb tval kn ∧ F b ∧ F mb ∧ b ≠ mb ∧ (∀ k, lv.ownBlock = some k → F k ∧ k ≠ b ∧ k ≠ mb)
  lt : ∀ k, F k → k < h.size

def Su (h : Hp) (F : Nat → Prop) (b : Nat) : Sst → Prop
  | .real seed d => (∃ sv, Cw h b [.bool true, sv, vi d, .slice none 0 0, .map none] ∧ Bs h sv seed ∧ F b ∧ (seed ≠ [] → ∀ k, sv.ownBlock = some k → F k ∧ k ≠ b)) ∧ ∀ k, F k → k < h.size
  | .signs L => SuG h F b L (known L 1)

theorem Su.lt {h : Hp} {F : Nat → Prop} {b : Nat} {st : Sst} (hs : Su h F b st) : ∀ k, F k → k < h.size := by
  cases st with
  | real => exact hs.2
  | signs L => exact SuG.lt hs

/-- a suite stays where its own blocks stay -/
theorem SuG.of {h h' : Hp} {F : Nat → Prop} {b : Nat} {L : List Thing} {kn : List (Thing × Value)} (hs : SuG h F b L kn) (hh : ∀ k, F k → h'[k]? = h[k]?) (hl : h.size ≤ h'.size) : SuG h' F b L kn := by
  obtain ⟨⟨lv, mb, hc, hn, hm, hb, hmb, hne, ho⟩, hlt⟩ := hs
  refine ⟨⟨lv, mb, ?_, ⟨?_, ?_, hn.from'⟩, hm.of (hh mb hmb), hb, hmb, hne, ho⟩, fun k hk => Nat.lt_of_lt_of_le (hlt k hk) hl⟩
  · obtain ⟨cs, E, fr, h1, h2⟩ := hc
    exact ⟨cs, E, fr, by rw [hh b hb]; exact h1, h2⟩
  · exact hn.rd.of fun _ k hk _ => hh k (ho k hk).1
  · intro a n c hv hlt'
    obtain ⟨b', o, cs, E, fr, ha, hB, h1, h2⟩ := hn.own a n c hv hlt'
    exact ⟨b', o, cs, E, fr, ha, hB, by rw [hh b' (ho b' (by rw [hv, ha]; rfl)).1]; exact h1, h2⟩
theorem Su.of {h h' : Hp} {F : Nat → Prop} {b : Nat} {st : Sst} (hs : Su h F b st) (hh : ∀ k, F k → h'[k]? = h[k]?) (hl : h.size ≤ h'.size) : Su h' F b st := by
  cases st with
  | real seed d =>
    obtain ⟨⟨sv, hc, hb, hF, ho⟩, hlt⟩ := hs
    refine ⟨⟨sv, ?_, hb.of fun hn k hk _ => hh k (ho (List.length_pos_iff.1 hn) k hk).1, hF, ho⟩, fun k hk => Nat.lt_of_lt_of_le (hlt k hk) hl⟩
    obtain ⟨cs, E, fr, h1, h2⟩ := hc
    exact ⟨cs, E, fr, by rw [hh b hF]; exact h1, h2⟩
  | signs L => exact SuG.of hs hh hl
theorem Su.fr {M F : Nat → Prop} {w w' : World} {b : Nat} {st : Sst} (hs : Su w.heap F b st) (hf : Fr M w w') (hM : ∀ k, F k → ¬ M k) : Su w'.heap F b st :=
  hs.of (fun k hk => hf.block k (hs.lt k hk) (hM k hk)) hf.size
theorem Su.ex {F : Nat → Prop} {w w' : World} {b : Nat} {st : Sst} (hs : Su w.heap F b st) (hf : Ex w w') : Su w'.heap F b st := hs.fr hf (fun _ _ h => h)
theorem SuG.ex' {F : Nat → Prop} {w w' : World} {b : Nat} {L : List Thing} {kn : List (Thing × Value)} (hs : SuG w.heap F b L kn) (hf : Ex w w') : SuG w'.heap F b L kn :=
  hs.of (fun k hk => hf.block k (hs.lt k hk) (fun h => h)) hf.size

theorem k53 {w : World} {F : Nat → Prop} {b : Nat} {L : List Thing} {kn : List (Thing × Value)} (t : Thing) (hs : SuG w.heap F b L kn) (hL : L.length ≤ 1073741824) :
    Calls Go.Proofs.Try.prog 53 #[.pointer (some ⟨b, 0, none⟩), tval t] w fun e w' => e = .returned (vi (L.length + 1 : Nat)) ∧ ∃ F' : Nat → Prop, SuG w'.heap F' b (L ++ [t]) kn ∧ Fr F w w' ∧ ∀ k, F' k → F k ∨ w.heap.size ≤ k := by
  obtain ⟨⟨lv, mb, hc, hn, hm, hb, hmb, hne, ho⟩, hlt⟩ := hs
  refine enter mo (args := [.pointer (some ⟨b, 0, none⟩), tval t]) Go.Proofs.Try.func53 c53 (by simp [x53]) ?_
  simp only [x53, env0]
  simp -dsimp (disch := first | omega | rfl | simp only [all_cons, all_nil, plain_w32, plain_w8, plain_w64, plain_ws, plain_int, plain_bool, plain_slice, plain_ptr, plain_map, plain_iface, Bool.and_self]) only [↓pre, ↓pre2, ↓pre3, ↓look_cons, ↓look_bnd, ↓look_bnd0, ↓opd_tmp, ↓opd_const, ↓ite_f, ↓ite_t, ↓reduceIte, post, post2, decide_true, decide_false, opds, Nat.reduceEqDiff, Nat.reduceAdd, Nat.zero_add, Nat.add_zero, Nat.mul_one, Int.toNat_natCast, Int.reduceToNat]
  refine box_rule fun b3 w1 hb3 hc3 he1 hs1 => ?_
  have C3 : Cw w1.heap b3 (tcells t) := hc3
  have hc1 := hc.ex he1
  simp -dsimp (disch := first | omega | rfl | simp only [all_cons, all_nil, plain_w32, plain_w8, plain_w64, plain_ws, plain_int, plain_bool, plain_slice, plain_ptr, plain_map, plain_iface, Bool.and_self]) only [↓pre, ↓pre2, ↓pre3, ↓look_cons, ↓look_bnd, ↓look_bnd0, ↓opd_tmp, ↓opd_const, ↓ite_f, ↓ite_t, ↓reduceIte, post, post2, decide_true, decide_false, opds, Nat.reduceEqDiff, Nat.reduceAdd, Nat.zero_add, Nat.add_zero, Nat.mul_one, Int.toNat_natCast, Int.reduceToNat]
  refine par_ex ?_
  have c3 : w1.drew.cell? ⟨b, 3, none⟩ = some lv := Cw.cell (w := w1.drew) hc1 3
  simp -dsimp (disch := first | omega | rfl | simp only [all_cons, all_nil, plain_w32, plain_w8, plain_w64, plain_ws, plain_int, plain_bool, plain_slice, plain_ptr, plain_map, plain_iface, Bool.and_self]) only [↓pre, ↓pre2, ↓pre3, ↓look_cons, ↓look_bnd, ↓look_bnd0, ↓opd_tmp, ↓opd_const, ↓ite_f, ↓ite_t, ↓reduceIte, post, post2, decide_true, decide_false, opds, Nat.reduceEqDiff, Nat.reduceAdd, Nat.zero_add, Nat.add_zero, Nat.mul_one, Int.toNat_natCast, Int.reduceToNat, c3]
  refine lda_cw (w := w1.drew) C3 rfl ?_
  simp -dsimp (disch := first | omega | rfl | simp only [all_cons, all_nil, plain_w32, plain_w8, plain_w64, plain_ws, plain_int, plain_bool, plain_slice, plain_ptr, plain_map, plain_iface, Bool.and_self]) only [↓pre, ↓pre2, ↓pre3, ↓look_cons, ↓look_bnd, ↓look_bnd0, ↓opd_tmp, ↓opd_const, ↓ite_f, ↓ite_t, ↓reduceIte, post, post2, decide_true, decide_false, opds, Nat.reduceEqDiff, Nat.reduceAdd, Nat.zero_add, Nat.add_zero, Nat.mul_one, Int.toNat_natCast, Int.reduceToNat]
  refine litn_rule (xs := [.tmp 10]) (vs := [tval t]) el81 rfl rfl (by omega) rfl (by simp [tval, Value.cells, tcells]) (by omega) fun b4 w2 hb4 hc4 he2 hs2 => ?_
  refine keep_yes he2.to ?_
  have hE2 : Ex w w2 := (he1.drew).trans he2
  have C4 : Cw w2.heap b4 (tcells t) := by simpa [tval, Value.cells] using hc4
  simp -dsimp (disch := first | omega | rfl | simp only [all_cons, all_nil, plain_w32, plain_w8, plain_w64, plain_ws, plain_int, plain_bool, plain_slice, plain_ptr, plain_map, plain_iface, Bool.and_self]) only [↓pre, ↓pre2, ↓pre3, ↓look_cons, ↓look_bnd, ↓look_bnd0, ↓opd_tmp, ↓opd_const, ↓ite_f, ↓ite_t, ↓reduceIte, post, post2, decide_true, decide_false, opds, Nat.reduceEqDiff, Nat.reduceAdd, Nat.zero_add, Nat.add_zero, Nat.mul_one, Int.toNat_natCast, Int.reduceToNat]
  refine app_rule (B := 0) el81 rfl rfl (hn.ex hE2) (Nat.zero_le _) (Cw.rd (n := 1) C4 rfl (Nat.le_refl 1)) (by simp [tcells, plain, w8, ws]) (by omega) (by omega) fun s' w3 hn3 hf3 ho3 => ?_
  simp -dsimp (disch := first | omega | rfl | simp only [all_cons, all_nil, plain_w32, plain_w8, plain_w64, plain_ws, plain_int, plain_bool, plain_slice, plain_ptr, plain_map, plain_iface, Bool.and_self]) only [↓pre, ↓pre2, ↓pre3, ↓look_cons, ↓look_bnd, ↓look_bnd0, ↓opd_tmp, ↓opd_const, ↓ite_f, ↓ite_t, ↓reduceIte, post, post2, decide_true, decide_false, opds, Nat.reduceEqDiff, Nat.reduceAdd, Nat.zero_add, Nat.add_zero, Nat.mul_one, Int.toNat_natCast, Int.reduceToNat]
  have hbl := hc.lt
  have hml := hm.lt
  have hc3' : Cw w3.heap b _ := (hc.ex hE2).fr hf3 (fun h => (ho b h.1).2.1 rfl)
  have hm3 : Mp w3.heap mb tval kn := (hm.ex hE2).fr hf3 (fun h => (ho mb h.1).2.2 rfl)
  obtain ⟨as', cs', hs'v⟩ : ∃ a c, s' = .slice a (L.length + 1) c := by obtain ⟨a, c, h, _⟩ := hn3.rd; exact ⟨a, c, h⟩
  have hz2 := hE2.size
  have hos : ∀ k, s'.ownBlock = some k → k ≠ b ∧ k ≠ mb := fun k hk => (ho3 k hk).elim (fun h => (ho k h).2) (fun h => by omega)
  refine store_rule hc3' (by simp) (by rw [hs'v]; rfl) fun w4 hc4' hf4 hs4 => ?_
  have hn4 : Nw 0 w4.heap 5 s' (L.length + 1) (L.flatMap tcells ++ tcells t) := hn3.fr hf4 (fun k hk _ _ e => (hos k hk).1 e)
  have hm4 := hm3.fr hf4 (fun h => hne h.symm)
  subst hs'v
  have c4 : w4.cell? ⟨b, 3, none⟩ = some (.slice as' (L.length + 1) cs') := hc4'.cell 3
  simp -dsimp (disch := first | omega | rfl | simp only [all_cons, all_nil, plain_w32, plain_w8, plain_w64, plain_ws, plain_int, plain_bool, plain_slice, plain_ptr, plain_map, plain_iface, Bool.and_self]) only [↓pre, ↓pre2, ↓pre3, ↓look_cons, ↓look_bnd, ↓look_bnd0, ↓opd_tmp, ↓opd_const, ↓ite_f, ↓ite_t, ↓reduceIte, post, post2, decide_true, decide_false, opds, Nat.reduceEqDiff, Nat.reduceAdd, Nat.zero_add, Nat.add_zero, Nat.mul_one, Int.toNat_natCast, Int.reduceToNat, c4]
  refine ⟨trivial, fun k => k = b ∨ k = mb ∨ (Value.slice as' (L.length + 1) cs').ownBlock = some k, ⟨⟨_, mb, hc4', by simpa [List.flatMap_append] using hn4, hm4, .inl rfl, .inr (.inl rfl), hne, fun k hk => ⟨.inr (.inr hk), hos k hk⟩⟩, ?_⟩, ?_, ?_⟩
  · rintro k (rfl | rfl | hk)
    · have := hc4'.lt; omega
    · have := hm4.lt; omega
    · exact hn4.rd.lt (by omega) hk
  · refine Fr.step (M2 := (· = b)) (Fr.step hE2.to hf3 (fun k hk h => (ho k h.1).1)) hf4 (fun k _ h => by rw [h]; exact hb)
  · rintro k (rfl | rfl | hk)
    · exact .inl hb
    · exact .inl hmb
    · rcases ho3 k hk with h | h
      · exact .inl (ho k h).1
      · exact .inr (by omega)
end Go.Lk
