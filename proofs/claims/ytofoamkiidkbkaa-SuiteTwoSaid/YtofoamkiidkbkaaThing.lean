/- The suite's things as keys of a map. No statement of the seat is proved in this text. -/
import Derived.Test.YtofoamkiidkbkaaMap2
import Derived.Test.YtofoamkiidkbkaaSui
set_option linter.unusedSimpArgs false
set_option linter.unusedVariables false
set_option linter.unusedSectionVars false
set_option linter.unnecessarySimpa false
set_option maxRecDepth 10000
namespace Go.Lk

/-- one of a suite's list -/
structure Thing where
  sort : UInt8
  key : List UInt8
  nonce : List UInt8
  text : List UInt8
  other : List UInt8
deriving DecidableEq

def tcells (t : Thing) : List Value := [w8 t.sort, ws t.key, ws t.nonce, ws t.text, ws t.other]
def tval (t : Thing) : Value := .agg (tcells t).toArray

theorem fields81 : Go.Proofs.Try.prog.underlying 81 = some (.struct (Go.Proofs.Try.prog.fieldsOf 81)) := by kernel_rfl
theorem stood81 : Go.Proofs.Try.prog.stoodInHeld 81 = false := by kernel_rfl
theorem list81 : (Go.Proofs.Try.prog.fieldsOf 81).toList.map (fun f => (f.name != "_", f.type, f.offset)) = [(true, 5, 0), (true, 9, 1), (true, 9, 2), (true, 9, 3), (true, 9, 4)] := by kernel_rfl
theorem und9 : Go.Proofs.Try.prog.underlying 9 = some .string := by kernel_rfl
theorem agg5 : aggT Go.Proofs.Try.prog 5 = some false := by kernel_rfl
theorem agg9 : aggT Go.Proofs.Try.prog 9 = some false := by kernel_rfl

theorem ws_toList (l : List UInt8) : (ByteArray.mk l.toArray).toList = l := by rw [ByteArray.toList_eq]
theorem ws_inj {a b : List UInt8} (h : ws a = ws b) : a = b := by
  simp only [ws, Value.string.injEq, ByteArray.mk.injEq] at h
  exact List.toArray_inj h

/-- the fields that are compared, one after the other, by their types alone -/
def eqF (P : Program) (d : Nat) (xs ys : Array Value) : List (Bool × TypeId × Nat) → Sem Bool
  | [] => pure true
  | (b, t, o) :: r =>
    if b = true then do
      let u ← part t xs o
      let v ← part t ys o
      let q ← Op.equalIn d t u v
      if (!q) = true then pure false else eqF P d xs ys r
    else eqF P d xs ys r
theorem eqF_eq (P : Program) (d : Nat) (xs ys : Array Value) : ∀ fs : List Field, Op.eqFields d xs ys fs = eqF P d xs ys (fs.map fun f => (f.name != "_", f.type, f.offset))
  | [] => rfl
  | f :: r => by
    simp only [Op.eqFields, eqF, List.map_cons, eqF_eq P d xs ys r]
    by_cases h : f.name = "_"
    · simp [h]
    · simp [h]

theorem eq8 (d : Nat) (a b : UInt8) (w : World) : (Op.equalIn (d + 1) 5 (w8 a) (w8 b)).run Go.Proofs.Try.prog w = .ok (decide (a = b)) w := by
  have := run_equalIn_int (P := Go.Proofs.Try.prog) w d 5 .u8 .u8 a.toNat b.toNat (by kernel_rfl)
  refine this.trans ?_
  congr 1
  by_cases h : a = b
  · subst h; simp
  · have : ¬ a.toNat = b.toNat := fun e => h (UInt8.toNat_inj.1 e)
    simp [h]
    omega
theorem eqs (d : Nat) (a b : List UInt8) (w : World) : (Op.equalIn (d + 1) 9 (ws a) (ws b)).run Go.Proofs.Try.prog w = .ok (decide (a = b)) w := by
  have := run_equalIn_string (P := Go.Proofs.Try.prog) w d 9 ⟨a.toArray⟩ ⟨b.toArray⟩ und9
  refine this.trans ?_
  rw [ws_toList, ws_toList]
  congr 1
  by_cases h : a = b <;> simp [h]

theorem eqT (d : Nat) (a b : Thing) (w : World) : (Op.equalIn (d + 2) 81 (tval a) (tval b)).run Go.Proofs.Try.prog w = .ok (decide (a = b)) w := by
  have := run_equalIn_struct (P := Go.Proofs.Try.prog) w (d + 1) 81 (tcells a).toArray (tcells b).toArray fields81 stood81
  refine this.trans ?_
  rw [eqF_eq Go.Proofs.Try.prog, list81]
  obtain ⟨a1, a2, a3, a4, a5⟩ := a
  obtain ⟨b1, b2, b3, b4, b5⟩ := b
  simp only [eqF, tcells, if_true, Sem.run_bind, part, agg_run agg5, agg_run agg9, Result.andThen_ok, Bool.false_eq_true, if_false, List.getElem?_toArray, List.getElem?_cons_zero, List.getElem?_cons_succ, Sem.run_pure, eq8, eqs]
  by_cases h1 : a1 = b1 <;> by_cases h2 : a2 = b2 <;> by_cases h3 : a3 = b3 <;> by_cases h4 : a4 = b4 <;> by_cases h5 : a5 = b5 <;> simp [h1, h2, h3, h4, h5, eqs]

theorem keyT_thing : KeyT Go.Proofs.Try.prog 81 tval where
  check := fun e a w => by
    have hch : ∀ (n : Nat) (t : Nat) (v : Value) (D : TypeDesc), Go.Proofs.Try.prog.underlying t = some D → (D = .string ∨ ∃ k, D = .int k) → ∀ w, (Instr.checkKey e (n + 1) t v).run Go.Proofs.Try.prog w = .ok () w := by
      intro n t v D hD hD2 w
      rw [Instr.checkKey]
      simp only [Sem.run_bind, und_run hD, Result.andThen_ok]
      rcases hD2 with rfl | ⟨k, rfl⟩ <;> rfl
    suffices h : ∀ m : Nat, (∀ v w, (Instr.checkKey e m 5 v).run Go.Proofs.Try.prog w = .ok () w) → (∀ v w, (Instr.checkKey e m 9 v).run Go.Proofs.Try.prog w = .ok () w) → (Instr.checkKey e (m + 1) 81 (tval a)).run Go.Proofs.Try.prog w = .ok () w from
      h 9999 (fun v w => hch 9998 _ v _ (by kernel_rfl) (.inr ⟨.u8, rfl⟩) w) (fun v w => hch 9998 _ v _ und9 (.inl rfl) w)
    intro m h5 h9
    have hl := list81
    rw [Instr.checkKey]
    simp only [Sem.run_bind, und_run fields81, Result.andThen_ok, tval]
    rw [← Array.forIn_toList]
    generalize (Go.Proofs.Try.prog.fieldsOf 81).toList = fs at hl ⊢
    have hlen := congrArg List.length hl
    simp only [List.length_map, List.length_cons, List.length_nil] at hlen
    obtain ⟨f1, f2, f3, f4, f5, rfl⟩ : ∃ a b c d e, fs = [a, b, c, d, e] := by
      match fs, hlen with
      | [a, b, c, d, e], _ => exact ⟨a, b, c, d, e, rfl⟩
    simp only [List.map_cons, List.map_nil, List.cons.injEq, Prod.mk.injEq, and_true, bne_iff_ne, ne_eq] at hl
    obtain ⟨⟨n1, t1, o1⟩, ⟨n2, t2, o2⟩, ⟨n3, t3, o3⟩, ⟨n4, t4, o4⟩, ⟨n5, t5, o5⟩⟩ := hl
    simp [n1, n2, n3, n4, n5, t1, t2, t3, t4, t5, o1, o2, o3, o4, o5, part, agg_run agg5, agg_run agg9, tcells, h5, h9]
  find := find_struct fields81 (fun a => ⟨_, rfl⟩) (fun a b w => eqT 9998 a b w)
  same := fun a => by
    rw [show (10000 : Nat) = 9999 + 1 from rfl]
    simp [tval, tcells, Instr.sameBits, w8, ws, beq_toListBytes]

theorem el81 : El Go.Proofs.Try.prog 74 81 (tcells ⟨0, [], [], [], []⟩) 5 72 := .mk' (zv := tval ⟨0, [], [], [], []⟩) _ (by kernel_rfl) (by kernel_rfl) rfl rfl (by omega)
end Go.Lk
