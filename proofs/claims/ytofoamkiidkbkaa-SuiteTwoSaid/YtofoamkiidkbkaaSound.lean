/- Soundness of the compact operations. No statement of the seat is proved in this text. -/
import Derived.Test.YtofoamkiidkbkaaCop
set_option linter.unusedSimpArgs false
set_option linter.unusedVariables false
set_option linter.unusedSectionVars false
set_option linter.unnecessarySimpa false
namespace Go.Lk

theorem loadCellsFrom_run {P : Program} {w : World} {a : Addr} : ∀ (n i : Nat) (acc : Array Value) (cs : List Value), cs.length = n →
    (∀ j, j < n → w.cell? (a.add (i + j)) = cs[j]?) → (loadCellsFrom a i n acc).run P w = .ok (acc ++ cs.toArray) w
  | 0, i, acc, cs, hl, _ => by
    have : cs = [] := List.length_eq_zero_iff.1 hl
    subst this
    simp [loadCellsFrom]
  | n + 1, i, acc, [], hl, _ => by simp at hl
  | n + 1, i, acc, c :: cs, hl, h => by
    have h0 := h 0 (by omega)
    simp at h0
    have ih := loadCellsFrom_run (P := P) (w := w) (a := a) n (i + 1) (acc.push c) cs (by simpa using hl) (fun j hj => by
      have := h (j + 1) (by omega)
      rw [show i + 1 + j = i + (j + 1) by omega, this]
      simp)
    simp only [loadCellsFrom, Sem.run_bind, run_load, h0, Result.andThen_ok, ih]
    congr 1
    apply Array.ext'
    simp

def Next (n : Nat) (K : Env → World → Prop) (a : Act) (w : World) : Prop := ∃ e, Agr n a e ∧ K e w

section
variable {P : Program} {n d : Nat} {a : Act} {e : Env} {w : World} {K : Env → World → Prop} {t : Nat} {pos : String} {af : Array Edge} {g : Option (Nat × Bool)}

theorem und_run {T : Nat} {D : TypeDesc} (h : P.underlying T = some D) (w : World) : (underlying T).run P w = .ok D w := by
  simp [underlying, h]

theorem agg_run {T : Nat} {b : Bool} (h : aggT P T = some b) (w : World) : (isAgg T).run P w = .ok b w := by
  unfold aggT at h
  split at h <;> simp at h <;> subst h <;> rename_i hu <;> simp [isAgg, underlying, hu]

theorem size_run {T s : Nat} (h : sizeT P T = some s) (w : World) : (sizeOf T).run P w = .ok s w := by
  unfold sizeT at h
  obtain ⟨i, hi, rfl⟩ := Option.map_eq_some_iff.1 h
  simp [sizeOf, typeInfo, hi]

/-- It yields a value for slot d, and leaves the world alone. -/
def PN (P : Program) (o : Oper) (a : Act) (w : World) (d : Nat) (e : Env) (K : Env → World → Prop) : Prop :=
  ∃ r, (execOp a.eval o).run P w = .ok (.value r) w ∧ K ((d, r) :: e) w

theorem PN.exec {op : Op} (ha : Agr n a e) (hd : d < n) (h : PN P ⟨some d, op, t, pos, af, g⟩ a w d e K) : exec P ⟨some d, op, t, pos, af, g⟩ a w (Next n K) := by
  obtain ⟨r, hr, hk⟩ := h
  exact exec_pure hr ⟨_, ha.put hd r, hk⟩

/-- A pure operation with a slot to write. -/
theorem pure_next {op : Op} {r : Value} (_ha : Agr n a e) (_hd : d < n) (hr : (execOp a.eval ⟨some d, op, t, pos, af, g⟩).run P w = .ok (.value r) w) (hk : K ((d, r) :: e) w) :
    PN P ⟨some d, op, t, pos, af, g⟩ a w d e K := ⟨r, hr, hk⟩

theorem fldv_run {T off sz : Nat} {b : Bool} {u r : Value} (h1 : aggT P T = some b) (h2 : sizeT P T = some sz) (h : fldv off sz b u = some r) (w : World) :
    (do part T (← asAgg u) off : Sem Value).run P w = .ok r w := by
  cases u <;> simp [fldv] at h
  rename_i cs
  cases b
  · simp at h
    simp [asAgg, part, agg_run h1, h]
  · simp at h
    subst h
    simp [asAgg, part, agg_run h1, size_run h2]

theorem eqb_run {T : Nat} (hT : P.underlying T = some .bool) (p q : Bool) : (Op.equal T (.bool p) (.bool q)).run P w = .ok (p == q) w := by
  unfold Op.equal Op.maxDepth
  show (Op.equalIn (9999 + 1) T (.bool p) (.bool q)).run P w = _
  rw [Op.equalIn]
  simp [und_run hT]

theorem eqb_op {T : Nat} {y z : Operand} (hT : P.underlying T = some .bool) (p q neg : Bool) :
    (do Go.eqGuard (if neg then .neq else .eql) T y z (.bool p) (.bool q); Go.binOp (if neg then .neq else .eql) T (.bool p) (.bool q) : Sem Value).run P w = .ok (.bool (if neg then !(p == q) else p == q)) w := by
  cases neg
  · show (do pure (Value.bool (← Op.equal T (.bool p) (.bool q))) : Sem Value).run P w = _
    rw [Sem.run_bind, eqb_run hT]; rfl
  · show (do pure (Value.bool (!(← Op.equal T (.bool p) (.bool q)))) : Sem Value).run P w = _
    rw [Sem.run_bind, eqb_run hT]; rfl

theorem s_move (y : Operand) {x : XOp} (hc : copD P d (.move y) = some x) (ha : Agr n a e) (hd : d < n) (h : sx P x K e w) :
    PN P ⟨some d, .move y, t, pos, af, g⟩ a w d e K := by
  simp only [copD] at hc
  injection hc with hc; subst hc
  obtain ⟨v, hv, hk⟩ := B_out h
  exact pure_next ha hd (by simp [execOp, ha.opd hv]) hk

theorem s_assign (y : Operand) {x : XOp} (hc : copD P d (.assign y) = some x) (ha : Agr n a e) (hd : d < n) (h : sx P x K e w) :
    PN P ⟨some d, .assign y, t, pos, af, g⟩ a w d e K := by
  simp only [copD] at hc
  injection hc with hc; subst hc
  obtain ⟨v, hv, hk⟩ := B_out h
  exact pure_next ha hd (by simp [execOp, ha.opd hv]) hk

theorem s_pick (c y z : Operand) {x : XOp} (hc : copD P d (.pick c y z) = some x) (ha : Agr n a e) (hd : d < n) (h : sx P x K e w) :
    PN P ⟨some d, .pick c y z, t, pos, af, g⟩ a w d e K := by
  simp only [copD] at hc
  injection hc with hc; subst hc
  obtain ⟨v, hv, h⟩ := B_out h
  obtain ⟨b, hb, h⟩ := B_out h
  have hv' : a.eval c = .bool b := by
    rw [ha.opd hv]
    cases v <;> simp [boolv] at hb
    rw [hb]
  obtain ⟨u, hu, hk⟩ := B_out h
  cases b
  · exact pure_next ha hd (by simp [execOp, hv', asBool, ha.opd (x := z) hu]) hk
  · exact pure_next ha hd (by simp [execOp, hv', asBool, ha.opd (x := y) hu]) hk

theorem s_binOp (op : BinOp) (T : Nat) (y z : Operand) (yt : Nat) {x : XOp} (hc : copD P d (.binOp op T y z yt) = some x) (ha : Agr n a e) (hd : d < n) (h : sx P x K e w) :
    PN P ⟨some d, .binOp op T y z yt, t, pos, af, g⟩ a w d e K := by
  simp only [copD] at hc
  unfold copB at hc
  have key : ∀ {u v r}, opd e y = some u → opd e z = some v → binv op u v = some r → K ((d, r) :: e) w → PN P ⟨some d, .binOp op T y z yt, t, pos, af, g⟩ a w d e K := by
    intro u v r hu hv hr hk
    refine pure_next ha hd ?_ hk
    have := binv_run (P := P) (T := T) (x := y) (y := z) hr w
    simp only [execOp, ha.opd hu, ha.opd hv]
    rw [Sem.run_bind, this]
    rfl
  split at hc
  · injection hc with hc; subst hc
    obtain ⟨u, hu, h⟩ := B_out h
    obtain ⟨v, hv, h⟩ := B_out h
    obtain ⟨r, hr, h⟩ := B_out h
    exact key hu hv hr h
  · injection hc with hc; subst hc
    obtain ⟨u, hu, h⟩ := B_out h
    obtain ⟨v, hv, h⟩ := B_out h
    obtain ⟨r, hr, h⟩ := B_out h
    exact key hu hv hr h
  · rename_i hT
    split at hc <;> (try (simp at hc; done))
    all_goals
      injection hc with hc; subst hc
      obtain ⟨u, hu, h⟩ := B_out h
      obtain ⟨p, hp, h⟩ := B_out h
      obtain ⟨v, hv, h⟩ := B_out h
      obtain ⟨q, hq, h⟩ := B_out h
      obtain rfl : u = .bool p := by cases u <;> simp [boolv] at hp; rw [hp]
      obtain rfl : v = .bool q := by cases v <;> simp [boolv] at hq; rw [hq]
      refine pure_next ha hd ?_ h
      simp only [execOp, ha.opd hu, ha.opd hv]
      first
        | (have := eqb_op (P := P) (w := w) (y := y) (z := z) hT p q false; simp only [Bool.false_eq_true, if_false] at this; rw [Sem.run_bind, this]; rfl)
        | (have := eqb_op (P := P) (w := w) (y := y) (z := z) hT p q true; simp only [if_true] at this; rw [Sem.run_bind, this]; rfl)
  · simp at hc

theorem s_unOp (op : UnOp) (T : Nat) (y : Operand) {x : XOp} (hc : copD P d (.unOp op T y) = some x) (ha : Agr n a e) (hd : d < n) (h : sx P x K e w) :
    PN P ⟨some d, .unOp op T y, t, pos, af, g⟩ a w d e K := by
  simp only [copD] at hc
  injection hc with hc; subst hc
  obtain ⟨u, hu, h⟩ := B_out h
  obtain ⟨r, hr, hk⟩ := B_out h
  exact pure_next ha hd (by simp [execOp, ha.opd hu, unv_run hr]) hk

theorem push_fold : ∀ (l : List UInt8) (s : ByteArray), (l.map fun (x : UInt8) => (x.toNat : Int)).foldl (fun r n => r.push (UInt8.ofNat n.toNat)) s = ⟨s.data ++ l.toArray⟩
  | [], s => by cases s; simp
  | c :: r, s => by
    rw [List.map_cons, List.foldl_cons, push_fold r]
    cases s
    simp [ByteArray.push]

theorem s_convert (src dst : Nat) (y : Operand) {x : XOp} (hc : copD P d (.convert src dst y) = some x) (ha : Agr n a e) (hd : d < n) (h : sx P x K e w) :
    PN P ⟨some d, .convert src dst y, t, pos, af, g⟩ a w d e K := by
  simp only [copD] at hc
  split at hc
  · rename_i k k' h1 h2
    injection hc with hc; subst hc
    obtain ⟨u, hu, h⟩ := B_out h
    obtain ⟨r, hr, hk⟩ := B_out h
    cases u <;> simp [cviv] at hr
    subst hr
    exact pure_next ha hd (by simp [execOp, ha.opd hu, Go.convert, und_run h1, und_run h2, Conv.intToInt]) hk
  · rename_i et h1 h2
    split at hc <;> (try (simp at hc; done))
    rename_i h3
    injection hc with hc; subst hc
    obtain ⟨u, hu, l, hl, hk⟩ := B_out h
    cases u <;> (try (exact (show False from hl).elim))
    rename_i ad len cap
    cases ad with
    | none =>
      have : l = [] := hl
      subst this
      refine pure_next ha hd ?_ hk
      simp [execOp, ha.opd hu, Go.convert, und_run h1, und_run h2, und_run h3, Conv.bytesToString]
      rfl
    | some ad =>
      obtain ⟨hlen, hcells⟩ := hl
      refine pure_next ha hd ?_ hk
      have hcs : (loadCells ad len).run P w = .ok ((l.map fun (x : UInt8) => (x.toNat : Int)).map (Value.int .u8)).toArray w := by
        have := loadCellsFrom_run (P := P) (w := w) (a := ad) len 0 #[] ((l.map fun (x : UInt8) => (x.toNat : Int)).map (Value.int .u8)) (by simp [hlen]) (fun j hj => by
          rw [Nat.zero_add, hcells j (by omega)]
          simp [w8, show j < l.length by omega])
        simpa [loadCells] using this
      have hb := run_bytesToString (P := P) w ad len cap _ hcs
      rw [push_fold] at hb
      simp only [execOp, ha.opd hu, Sem.run_bind, Go.convert, und_run h1, und_run h2, und_run h3, Result.andThen_ok, hb, ws]
      simp
  · simp at hc

theorem s_extract (y : Operand) (i : Nat) {x : XOp} (hc : copD P d (.extract y i) = some x) (ha : Agr n a e) (hd : d < n) (h : sx P x K e w) :
    PN P ⟨some d, .extract y i, t, pos, af, g⟩ a w d e K := by
  simp only [copD] at hc
  injection hc with hc; subst hc
  obtain ⟨u, hu, h⟩ := B_out h
  obtain ⟨r, hr, hk⟩ := B_out h
  cases u <;> simp [extv] at hr
  exact pure_next ha hd (by simp [execOp, ha.opd hu, Instr.extract, hr]) hk

theorem s_field (T : Nat) (y : Operand) (f : Nat) {x : XOp} (hc : copD P d (.field T y f) = some x) (ha : Agr n a e) (hd : d < n) (h : sx P x K e w) :
    PN P ⟨some d, .field T y f, t, pos, af, g⟩ a w d e K := by
  simp only [copD] at hc
  split at hc <;> (try (simp at hc; done))
  rename_i fs hT
  split at hc <;> (try (simp at hc; done))
  rename_i fd hf
  split at hc <;> (try (simp at hc; done))
  rename_i b s hb hs
  injection hc with hc; subst hc
  obtain ⟨u, hu, h⟩ := B_out h
  obtain ⟨r, hr, hk⟩ := B_out h
  have := fldv_run hb hs hr w
  refine pure_next ha hd ?_ hk
  simp only [execOp, Instr.field, ha.opd hu, Sem.run_bind, und_run hT, Result.andThen_ok, hf] at this ⊢
  rw [this]; rfl

theorem s_fieldAddr (T : Nat) (y : Operand) (f : Nat) {x : XOp} (hc : copD P d (.fieldAddr T y f) = some x) (ha : Agr n a e) (hd : d < n) (h : sx P x K e w) :
    PN P ⟨some d, .fieldAddr T y f, t, pos, af, g⟩ a w d e K := by
  simp only [copD] at hc
  split at hc <;> (try (simp at hc; done))
  rename_i fs hT
  split at hc <;> (try (simp at hc; done))
  rename_i fd hf
  split at hc <;> (try (simp at hc; done))
  rename_i s hs
  injection hc with hc; subst hc
  obtain ⟨u, hu, h⟩ := B_out h
  obtain ⟨r, hr, hk⟩ := B_out h
  cases u <;> simp [fav] at hr
  rename_i ad
  cases ad <;> simp [fav] at hr
  subst hr
  refine pure_next ha hd ?_ hk
  simp [execOp, Instr.fieldAt, ha.opd hu, und_run hT, hf, Instr.sureAddr, fieldPlace, size_run hs]

theorem s_indexAddr (T : Nat) (y i : Operand) {x : XOp} (hc : copD P d (.indexAddr T y i) = some x) (ha : Agr n a e) (hd : d < n) (h : sx P x K e w) :
    PN P ⟨some d, .indexAddr T y i, t, pos, af, g⟩ a w d e K := by
  simp only [copD] at hc
  split at hc
  · rename_i et hT
    split at hc <;> (try (simp at hc; done))
    rename_i s hs
    injection hc with hc; subst hc
    obtain ⟨u, hu, h⟩ := B_out h
    obtain ⟨v, hv, h⟩ := B_out h
    obtain ⟨r, hr, hk⟩ := B_out h
    unfold idxv at hr
    split at hr <;> (try (simp at hr; done))
    rename_i ad nn c k j
    split at hr <;> (try (simp at hr; done))
    rename_i hj
    injection hr with hr
    subst hr
    refine pure_next ha hd ?_ hk
    simp [execOp, Instr.indexAt, ha.opd hu, ha.opd hv, asIntOf, und_run hT, size_run hs, hj]
  · rename_i len et hT
    split at hc <;> (try (simp at hc; done))
    rename_i s hs
    injection hc with hc; subst hc
    obtain ⟨u, hu, h⟩ := B_out h
    obtain ⟨v, hv, h⟩ := B_out h
    obtain ⟨r, hr, hk⟩ := B_out h
    unfold idav at hr
    split at hr <;> (try (simp at hr; done))
    rename_i ad k j
    split at hr <;> (try (simp at hr; done))
    rename_i hj
    injection hr with hr
    subst hr
    refine pure_next ha hd ?_ hk
    simp [execOp, Instr.indexAt, ha.opd hu, ha.opd hv, asIntOf, und_run hT, size_run hs, hj, Instr.sureAddr]
  · simp at hc

theorem s_index (T : Nat) (y i : Operand) {x : XOp} (hc : copD P d (.index T y i) = some x) (ha : Agr n a e) (hd : d < n) (h : sx P x K e w) :
    PN P ⟨some d, .index T y i, t, pos, af, g⟩ a w d e K := by
  simp only [copD] at hc
  split at hc
  · rename_i len et hT
    split at hc <;> (try (simp at hc; done))
    rename_i b s hb hs
    injection hc with hc; subst hc
    obtain ⟨u, hu, h⟩ := B_out h
    obtain ⟨v, hv, h⟩ := B_out h
    obtain ⟨r, hr, hk⟩ := B_out h
    unfold indv at hr
    split at hr <;> (try (simp at hr; done))
    rename_i cs k j
    split at hr <;> (try (simp at hr; done))
    rename_i hj
    have := fldv_run hb hs hr w
    refine pure_next ha hd ?_ hk
    simp only [execOp, Instr.index, ha.opd hu, ha.opd hv, asIntOf, Sem.run_bind, und_run hT, Sem.run_pure, Result.andThen_ok, hj, and_self, if_true, size_run hs, asAgg] at this ⊢
    rw [this]; rfl
  · rename_i hT
    injection hc with hc; subst hc
    obtain ⟨u, hu, h⟩ := B_out h
    obtain ⟨v, hv, h⟩ := B_out h
    obtain ⟨r, hr, hk⟩ := B_out h
    unfold idsv at hr
    split at hr <;> (try (simp at hr; done))
    rename_i s k j
    split at hr <;> (try (simp at hr; done))
    rename_i hj
    obtain ⟨b, hb, rfl⟩ := Option.map_eq_some_iff.1 hr
    refine pure_next ha hd ?_ hk
    simp [execOp, Instr.index, ha.opd hu, ha.opd hv, asIntOf, und_run hT, hj, hb]
  · simp at hc

theorem s_nilCheck (y : Operand) {x : XOp} (hc : copD P d (.nilCheck y) = some x) (ha : Agr n a e) (hd : d < n) (h : sx P x K e w) :
    PN P ⟨some d, .nilCheck y, t, pos, af, g⟩ a w d e K := by
  simp only [copD] at hc
  injection hc with hc; subst hc
  obtain ⟨u, hu, h⟩ := B_out h
  obtain ⟨r, hr, hk⟩ := B_out h
  cases u <;> simp [ncv] at hr
  rename_i ad
  cases ad <;> simp [ncv] at hr
  subst hr
  exact pure_next ha hd (by simp [execOp, ha.opd hu]) hk

theorem s_makeInterface (T : Nat) (y : Operand) {x : XOp} (hc : copD P d (.makeInterface T y) = some x) (ha : Agr n a e) (hd : d < n) (h : sx P x K e w) :
    PN P ⟨some d, .makeInterface T y, t, pos, af, g⟩ a w d e K := by
  simp only [copD] at hc
  split at hc <;> (try (simp at hc; done))
  rename_i D hno hT
  injection hc with hc; subst hc
  obtain ⟨u, hu, h⟩ := B_out h
  refine pure_next ha hd ?_ h
  simp only [execOp, Instr.makeInterface, ha.opd hu, Sem.run_bind, und_run hT]
  cases D <;> first | rfl | exact absurd rfl (hno _)

theorem s_makeFunc (fn : Fn) (fs cs : Array Operand) {x : XOp} (hc : copD P d (.makeFunc fn fs cs) = some x) (ha : Agr n a e) (hd : d < n) (h : sx P x K e w) :
    PN P ⟨some d, .makeFunc fn fs cs, t, pos, af, g⟩ a w d e K := by
  simp only [copD] at hc
  injection hc with hc; subst hc
  obtain ⟨us, hu, h⟩ := B_out h
  obtain ⟨vs, hv, h⟩ := B_out h
  have h1 : fs.map a.eval = us.toArray := by rw [← opds_eval ha hu]; apply Array.ext'; simp
  have h2 : cs.map a.eval = vs.toArray := by rw [← opds_eval ha hv]; apply Array.ext'; simp
  refine pure_next ha hd ?_ h
  simp [execOp, Instr.makeFunc, h1, h2]
end
end Go.Lk
