/- A small program logic of our own over the kit's weakest preconditions: code is read as compact operations over a partial map of slots; proved sound once. No statement of the seat is proved in this text. -/
import Derived.Orders
import Derived.ScopeJumps
import Derived.KernelRfl
set_option linter.unusedSimpArgs false
set_option linter.unusedVariables false
set_option linter.unusedSectionVars false
set_option linter.unnecessarySimpa false
namespace Go.Lk

/-! ### slots that are known -/
abbrev Env := List (Nat × Value)

def look : Env → Nat → Option Value
  | [], _ => none
  | (k, v) :: e, j => if k = j then some v else look e j

def opd (e : Env) : Operand → Option Value
  | .tmp t => look e t
  | .const v => some v
  | .global g => some (.pointer (some ⟨g, 0, none⟩))
  | .func f => some (.func (.func f) #[] #[])

def evd (e : Env) (x : Operand) : Value := (opd e x).getD undef

def Agr (n : Nat) (a : Act) (e : Env) : Prop :=
  a.tmps.size = n ∧ a.defers = [] ∧ ∀ t v, look e t = some v → a.tmps[t]? = some v

theorem Agr.opd {n : Nat} {a : Act} {e : Env} (h : Agr n a e) {x : Operand} {v : Value} (hx : opd e x = some v) : a.eval x = v := by
  cases x with
  | tmp t => simp [Act.eval, h.2.2 t v hx]
  | const u => simpa [Lk.opd, Act.eval] using hx
  | global g => simpa [Lk.opd, Act.eval] using hx
  | func f => simpa [Lk.opd, Act.eval] using hx

theorem Agr.put {n : Nat} {a : Act} {e : Env} (h : Agr n a e) {d : Nat} (hd : d < n) (v : Value) : Agr n (a.put (some d) v) ((d, v) :: e) := by
  obtain ⟨h1, h2, h3⟩ := h
  refine ⟨by simp [Act.put, h1], h2, fun t u hu => ?_⟩
  simp only [look] at hu
  by_cases hdt : d = t
  · subst hdt
    simp at hu
    subst hu
    simp [Act.put, Array.getElem?_setIfInBounds, h1, hd]
  · simp [hdt] at hu
    simp [Act.put, Array.getElem?_setIfInBounds, hdt, h3 t u hu]

/-! ### what an operation comes to, without a panic -/
def after (P : Program) (dst : Option Tmp) (a : Act) (R : Act → World → Prop) : Result Next → Prop
  | .ok (.value v) w' => R (a.put dst v) w'
  | .ok .skip w' => R (a.put dst undef) w'
  | .ok (.enter f args) w' => Calls P f args w' fun en w'' => ∃ v, en = .returned v ∧ R (a.put dst v) w''
  | _ => False

def exec (P : Program) (o : Oper) (a : Act) (w : World) (R : Act → World → Prop) : Prop :=
  after P o.dst a R ((execOp a.eval o).run P w)

theorem exec_wp {P : Program} {o : Oper} {a : Act} {w : World} {R : Act → World → Prop} {Q : Exit → Act → World → Prop} (h : exec P o a w R) :
    o.wp P a w R Q := by
  unfold exec at h
  unfold Oper.wp
  generalize (execOp a.eval o).run P w = r at *
  cases r with
  | ok n w' =>
    cases n <;> simp only [after] at h <;> simp only [Oper.upon]
    case value v => exact h
    case skip => exact h
    case enter f args =>
      refine h.mono fun en w'' ⟨v, hv, hr⟩ => ?_
      subst hv
      exact hr
  | halt x w' => simp only [after] at h

theorem exec_mono {P : Program} {o : Oper} {a : Act} {w : World} {R R' : Act → World → Prop} (hr : ∀ a w, R a w → R' a w) (h : exec P o a w R) : exec P o a w R' := by
  unfold exec at *
  generalize (execOp a.eval o).run P w = r at *
  cases r with
  | ok n w' =>
    cases n <;> simp only [after] at h ⊢
    case value v => exact hr _ _ h
    case skip => exact hr _ _ h
    case enter f args => exact h.mono fun en w'' ⟨v, hv, h'⟩ => ⟨v, hv, hr _ _ h'⟩
  | halt x w' => simp only [after] at h

/-- A computation that neither reads nor writes. -/
def pureOf {α : Type} (P : Program) : Sem α → Option α
  | .pure a => some a
  | .program k => pureOf P (k P)
  | _ => none

theorem pureOf_run {α : Type} {P : Program} {s : Sem α} {v : α} (h : pureOf P s = some v) (w : World) : s.run P w = .ok v w := by
  induction s with
  | pure a => simp [pureOf] at h; subst h; rfl
  | program k ih => simp only [pureOf] at h; simp only [Sem.run]; exact ih _ h
  | _ => simp [pureOf] at h

theorem exec_pure {P : Program} {o : Oper} {a : Act} {w : World} {R : Act → World → Prop} {v : Value} (h : (execOp a.eval o).run P w = .ok (.value v) w) (hr : R (a.put o.dst v) w) : exec P o a w R := by
  unfold exec; rw [h]; exact hr
end Go.Lk
