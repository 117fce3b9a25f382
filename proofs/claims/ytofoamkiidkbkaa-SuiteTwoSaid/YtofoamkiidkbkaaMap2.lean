/- Maps: their rules. No statement of the seat is proved in this text. -/
import Derived.Test.YtofoamkiidkbkaaMap
set_option linter.unusedSimpArgs false
set_option linter.unusedVariables false
set_option linter.unusedSectionVars false
set_option linter.unnecessarySimpa false
namespace Go.Lk

/-- the first with a key: its place and value -/
def findA {α : Type} [DecidableEq α] (a : α) : List (α × Value) → Nat → Option (Nat × Value)
  | [], _ => none
  | (b, v) :: r, i => if a = b then some (i, v) else findA a r (i + 1)
/-- a value under a key -/
def getA {α : Type} [DecidableEq α] (a : α) (l : List (α × Value)) : Option Value := (findA a l 0).map (·.2)
/-- a value under a key, set -/
def putA {α : Type} [DecidableEq α] (a : α) (v : Value) (l : List (α × Value)) : List (α × Value) :=
  match findA a l 0 with
  | some (i, _) => l.modify i fun p => (p.1, v)
  | none => l ++ [(a, v)]

structure KeyT (P : Program) (kt : TypeId) {α : Type} [DecidableEq α] (enc : α → Value) : Prop where
  check : ∀ (e : Bool) (a : α) (w : World), (Instr.checkKey e 10000 kt (enc a)).run P w = .ok () w
  find : ∀ (a : α) (l : List (α × Value)) (es : List MapEntry) (w : World), es.map (fun e => (e.key, e.val)) = l.map (fun p => (enc p.1, p.2)) → (Instr.findKey kt (enc a) es).run P w = .ok (findA a l 0) w
  same : ∀ a : α, Instr.sameBits 10000 (enc a) (enc a) = true

/-- block mb is a map that holds just these, in the order in which they came -/
def Mp {α : Type} (h : Hp) (mb : Nat) (enc : α → Value) (l : List (α × Value)) : Prop :=
  ∃ es clk, h[mb]? = some (.map es clk) ∧ es.toList.map (fun e => (e.key, e.val)) = l.map (fun p => (enc p.1, p.2))

theorem Mp.lt {α : Type} {h : Hp} {mb : Nat} {enc : α → Value} {l : List (α × Value)} (hm : Mp h mb enc l) : mb < h.size := by
  obtain ⟨es, clk, h1, _⟩ := hm
  exact (Array.getElem?_eq_some_iff.1 h1).1
theorem Mp.of {α : Type} {h h' : Hp} {mb : Nat} {enc : α → Value} {l : List (α × Value)} (hm : Mp h mb enc l) (hb : h'[mb]? = h[mb]?) : Mp h' mb enc l := by
  obtain ⟨es, clk, h1, h2⟩ := hm
  exact ⟨es, clk, by rw [hb]; exact h1, h2⟩
theorem Mp.fr {α : Type} {M : Nat → Prop} {w w' : World} {mb : Nat} {enc : α → Value} {l : List (α × Value)} (hm : Mp w.heap mb enc l) (hf : Fr M w w') (hM : ¬ M mb) : Mp w'.heap mb enc l := hm.of (hf.block mb hm.lt hM)
theorem Mp.ex {α : Type} {w w' : World} {mb : Nat} {enc : α → Value} {l : List (α × Value)} (hm : Mp w.heap mb enc l) (hf : Ex w w') : Mp w'.heap mb enc l := hm.fr hf (fun h => h)

theorem find_lt {α : Type} [DecidableEq α] {a : α} : ∀ {l : List (α × Value)} {i j : Nat} {v : Value}, findA a l i = some (j, v) → ∃ k, j = i + k ∧ l[k]? = some (a, v)
  | [], i, j, v, h => by simp [findA] at h
  | (b, u) :: r, i, j, v, h => by
    simp only [findA] at h
    by_cases hab : a = b
    · rw [if_pos hab] at h
      simp only [Option.some.injEq, Prod.mk.injEq] at h
      obtain ⟨rfl, rfl⟩ := h
      exact ⟨0, rfl, by simp [hab]⟩
    · rw [if_neg hab] at h
      obtain ⟨k, hk, hl⟩ := find_lt h
      exact ⟨k + 1, by omega, by simpa using hl⟩

section
variable {P : Program} {kt et T mb : Nat} {α : Type} [DecidableEq α] {enc : α → Value} {l : List (α × Value)}

theorem lookup_rule {K : Env → World → Prop} {d t : Nat} {x k : Operand} {ok : Bool} {a : α} {zv : Value} {e : Env} {w : World} {g : Tg K} {g' : Tg (Op.lookup T x k ok)}
    (hk : KeyT P kt enc) (hT : P.underlying T = some (.map kt et)) (hz : (P.info? et).bind (·.zero) = some zv) (hx : opd e x = some (.map (some mb))) (hkey : opd e k = some (enc a)) (hm : Mp w.heap mb enc l)
    (h : K ((d, if ok then .tuple #[(getA a l).getD zv, .bool (getA a l).isSome] else (getA a l).getD zv) :: e) w) : RawR K P (some d) (.lookup T x k ok) t e w g g' := by
  obtain ⟨es, clk, hb, hes⟩ := hm
  obtain ⟨i, hi, hzv⟩ := Option.bind_eq_some_iff.1 hz
  refine raw_value (v := if ok then .tuple #[(getA a l).getD zv, .bool (getA a l).isSome] else (getA a l).getD zv) (w' := w) ?_ ?_ h
  · show (opds e [x, k]).isSome = true
    rw [opds_cons hx (opds_cons hkey (opds_nil e))]; rfl
  · have hf := hk.find a l es.toList w hes
    simp only [execOp, Instr.lookup, evd_of hx, evd_of hkey, Sem.run_bind, und_run hT, Result.andThen_ok, MapKept.run_getObj_map hb, hk.check, hf, Sem.run_pure]
    unfold getA
    cases hfa : findA a l 0 with
    | none => simp [zeroValue, typeInfo, hi, hzv]
    | some p => obtain ⟨j, v⟩ := p; simp

theorem lookup_some {K : Env → World → Prop} {d t : Nat} {x k : Operand} {a : α} {zv v : Value} {e : Env} {w : World} {g : Tg K} {g' : Tg (Op.lookup T x k true)}
    (hk : KeyT P kt enc) (hT : P.underlying T = some (.map kt et)) (hz : (P.info? et).bind (·.zero) = some zv) (hx : opd e x = some (.map (some mb))) (hkey : opd e k = some (enc a)) (hm : Mp w.heap mb enc l) (hv : getA a l = some v)
    (h : K ((d, .tuple #[v, .bool true]) :: e) w) : RawR K P (some d) (.lookup T x k true) t e w g g' :=
  lookup_rule hk hT hz hx hkey hm (by rw [hv]; exact h)
theorem lookup_none {K : Env → World → Prop} {d t : Nat} {x k : Operand} {a : α} {zv : Value} {e : Env} {w : World} {g : Tg K} {g' : Tg (Op.lookup T x k true)}
    (hk : KeyT P kt enc) (hT : P.underlying T = some (.map kt et)) (hz : (P.info? et).bind (·.zero) = some zv) (hx : opd e x = some (.map (some mb))) (hkey : opd e k = some (enc a)) (hm : Mp w.heap mb enc l) (hv : getA a l = none)
    (h : K ((d, .tuple #[zv, .bool false]) :: e) w) : RawR K P (some d) (.lookup T x k true) t e w g g' :=
  lookup_rule hk hT hz hx hkey hm (by rw [hv]; exact h)
theorem lookup_val {K : Env → World → Prop} {d t : Nat} {x k : Operand} {a : α} {zv v : Value} {e : Env} {w : World} {g : Tg K} {g' : Tg (Op.lookup T x k false)}
    (hk : KeyT P kt enc) (hT : P.underlying T = some (.map kt et)) (hz : (P.info? et).bind (·.zero) = some zv) (hx : opd e x = some (.map (some mb))) (hkey : opd e k = some (enc a)) (hm : Mp w.heap mb enc l) (hv : (getA a l).getD zv = v)
    (h : K ((d, v) :: e) w) : RawR K P (some d) (.lookup T x k false) t e w g g' :=
  lookup_rule hk hT hz hx hkey hm (by rw [hv]; exact h)

theorem setIf_fr (w : World) (b : Nat) (o : Obj) : Fr (· = b) w { w with heap := w.heap.setIfInBounds b o } := by
  refine ⟨rfl, rfl, rfl, by simp, fun k _ hk => ?_⟩
  simp only [Array.getElem?_setIfInBounds]
  rw [if_neg (fun h => hk h.symm)]

theorem map_modify' {β γ : Type} (f : β → γ) (g : β → β) (g' : γ → γ) (hfg : ∀ x, f (g x) = g' (f x)) : ∀ (l : List β) (i : Nat), (l.modify i g).map f = (l.map f).modify i g'
  | [], i => by simp
  | x :: r, 0 => by simp [hfg]
  | x :: r, i + 1 => by simp [map_modify' f g g' hfg r i]

theorem mapupd_rule {K : Env → World → Prop} {t : Nat} {m k x : Operand} {a : α} {v : Value} {e : Env} {w : World} {g : Tg K} {g' : Tg (Op.mapUpdate T m k x)}
    (hk : KeyT P kt enc) (hT : P.underlying T = some (.map kt et)) (hmv : opd e m = some (.map (some mb))) (hkey : opd e k = some (enc a)) (hx : opd e x = some v) (hm : Mp w.heap mb enc l)
    (h : ∀ w', Mp w'.heap mb enc (putA a v l) → Fr (· = mb) w w' → w'.heap.size = w.heap.size → K e w') : RawR K P none (.mapUpdate T m k x) t e w g g' := by
  obtain ⟨es, clk, hb, hes⟩ := hm
  have hlt := (Array.getElem?_eq_some_iff.1 hb).1
  have hf := hk.find a l es.toList w hes
  have hop : (opds e (Op.mapUpdate T m k x).operands.toList).isSome = true := by
    show (opds e [m, k, x]).isSome = true
    rw [opds_cons hmv (opds_cons hkey (opds_cons hx (opds_nil e)))]; rfl
  have fin : ∀ (o : Obj), (∃ es' clk', o = .map es' clk' ∧ es'.toList.map (fun e => (e.key, e.val)) = (putA a v l).map (fun p => (enc p.1, p.2))) →
      (execOp (evd e) ⟨none, .mapUpdate T m k x, t, "", #[], none⟩).run P w = .ok .skip { w with heap := w.heap.setIfInBounds mb o } → RawR K P none (.mapUpdate T m k x) t e w g g' := by
    rintro o ⟨es', clk', rfl, he'⟩ hrun
    refine ⟨hop, ?_⟩
    rw [hrun]
    exact h _ ⟨es', clk', by simp [hlt], he'⟩ (setIf_fr w mb _) (by simp)
  cases hfa : findA a l 0 with
  | none =>
    refine fin (.map (es.push { key := enc a, val := v, born := clk }) (clk + 1)) ⟨_, _, rfl, ?_⟩ ?_
    · unfold putA
      rw [hfa]
      simp [hes]
    · rw [hfa] at hf
      simp only [execOp, Instr.mapUpdate, evd_of hmv, evd_of hkey, evd_of hx, Sem.run_bind, und_run hT, Result.andThen_ok, MapKept.run_getObj_map hb, hk.check, hf, Sem.run_pure, MapKept.run_setObj_map _ hb]
  | some p =>
    obtain ⟨j, u⟩ := p
    obtain ⟨i, hij, hli⟩ := find_lt hfa
    have hji : j = i := by omega
    subst hji
    rw [hfa] at hf
    have hee : es.toList[j]?.map (fun e => (e.key, e.val)) = some (enc a, u) := by
      have := congrArg (·[j]?) hes
      simp only [List.getElem?_map, hli, Option.map_some] at this
      exact this
    obtain ⟨e0, he0, hk0⟩ := Option.map_eq_some_iff.1 hee
    simp only [Prod.mk.injEq] at hk0
    have hej : es[j]? = some e0 := by simpa using he0
    have hjl : j < es.size := (Array.getElem?_eq_some_iff.1 hej).1
    refine fin (.map (es.modify j fun e => { e with key := enc a, val := v }) clk) ⟨_, _, rfl, ?_⟩ ?_
    · unfold putA
      rw [hfa]
      simp only [Array.toList_modify]
      apply List.ext_getElem?
      intro q
      have hq := congrArg (·[q]?) hes
      simp only [List.getElem?_map] at hq
      simp only [List.getElem?_map, List.getElem?_modify]
      by_cases hqj : j = q
      · subst hqj
        simp [he0, hli]
      · simp only [hqj, if_false, Option.map_id', id]
        simpa using hq
    · simp only [execOp, Instr.mapUpdate, evd_of hmv, evd_of hkey, evd_of hx, Sem.run_bind, und_run hT, Result.andThen_ok, MapKept.run_getObj_map hb, hk.check, hf, Sem.run_pure]
      have hkk : (((es[j]?).map (·.key)).getD (enc a)) = enc a := by rw [hej]; simp [hk0.1]
      rw [hkk]
      simp only [Instr.keyThatStays, hk.same, if_true, Sem.run_bind, Sem.run_pure, Result.andThen_ok, MapKept.run_setObj_map _ hb]

theorem mkmap_rule {K : Env → World → Prop} {d t : Nat} {e : Env} {w : World} {g : Tg K} {g' : Tg (Op.makeMap T none)}
    (h : ∀ b w', w.heap.size = b → Mp w'.heap b enc [] → Ex w w' → w'.heap.size = w.heap.size + 1 → K ((d, .map (some b)) :: e) w') : RawR K P (some d) (.makeMap T none) t e w g g' := by
  refine raw_value (v := .map (some w.heap.size)) (w' := { w with heap := w.heap.push (.map #[] 0) }) ?_ ?_ (h _ _ rfl ⟨#[], 0, by simp, by simp⟩ (push_ex _ _) (by simp))
  · rfl
  · simp only [execOp, Instr.makeMap, Option.map_none, Sem.run_bind, Sem.run_pure, Result.andThen_ok, run_newObj]
end

/-! ### keys that are structs -/
theorem find_asking {P : Program} {kt : Nat} {α : Type} [DecidableEq α] {enc : α → Value} (heq : ∀ a b w, (Op.equal kt (enc a) (enc b)).run P w = .ok (decide (a = b)) w) (a : α) :
    ∀ (l : List (α × Value)) (es : List MapEntry) (i : Nat) (w : World), es.map (fun e => (e.key, e.val)) = l.map (fun p => (enc p.1, p.2)) → (Instr.findAsking kt (enc a) es i).run P w = .ok (findA a l i) w
  | [], es, i, w, h => by
    have : es = [] := by simpa using h
    subst this
    simp [Instr.findAsking, findA]
  | (b, v) :: r, es, i, w, h => by
    cases es with
    | nil => simp at h
    | cons e es =>
      simp only [List.map_cons, List.cons.injEq, Prod.mk.injEq] at h
      obtain ⟨⟨h1, h2⟩, h3⟩ := h
      have ih := find_asking heq a r es (i + 1) w h3
      simp only [Instr.findAsking, h1, Sem.run_bind, heq, Result.andThen_ok, findA, h2]
      by_cases hab : a = b
      · simp [hab]
      · simp [hab, ih]

theorem find_struct {P : Program} {kt : Nat} {fs : Array Field} {α : Type} [DecidableEq α] {enc : α → Value} (hs : P.underlying kt = some (.struct fs)) (hagg : ∀ a, ∃ cs, enc a = .agg cs)
    (heq : ∀ a b w, (Op.equal kt (enc a) (enc b)).run P w = .ok (decide (a = b)) w) (a : α) (l : List (α × Value)) (es : List MapEntry) (w : World) (h : es.map (fun e => (e.key, e.val)) = l.map (fun p => (enc p.1, p.2))) :
    (Instr.findKey kt (enc a) es).run P w = .ok (findA a l 0) w := by
  simp only [Instr.findKey, Sem.run_bind, und_run hs, Result.andThen_ok]
  cases es with
  | nil =>
    have : l = [] := by simpa using h.symm
    subst this
    simp [Instr.findNow, findA]
  | cons e r =>
    have : Instr.findNow (.struct fs) (enc a) (e :: r) 0 = none := by
      simp [Instr.findNow, Instr.sameNow]
    rw [this]
    exact find_asking heq a l (e :: r) 0 w h
end Go.Lk
