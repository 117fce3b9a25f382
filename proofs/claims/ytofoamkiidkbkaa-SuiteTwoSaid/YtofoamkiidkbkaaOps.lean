/- Compact operations, what each does over known slots, and that the machine's operation does just that. No statement of the seat is proved in this text. -/
import Derived.Test.YtofoamkiidkbkaaBase
import Derived.WalkKit
set_option linter.unusedSimpArgs false
set_option linter.unusedVariables false
set_option linter.unusedSectionVars false
set_option linter.unnecessarySimpa false
namespace Go.Lk

inductive XOp where
  | mv (d : Nat) (x : Operand)
  | bin (op : BinOp) (d : Nat) (x y : Operand)
  | eqb (neg : Bool) (d : Nat) (x y : Operand)
  | un (op : UnOp) (d : Nat) (x : Operand)
  | cvi (k : IntKind) (d : Nat) (x : Operand)
  | ext (d : Nat) (x : Operand) (i : Nat)
  | fld (d : Nat) (x : Operand) (off sz : Nat) (agg : Bool)
  | fa (d : Nat) (x : Operand) (off : Nat)
  | ix (d : Nat) (x i : Operand) (sz : Nat)
  | ixa (d : Nat) (x i : Operand) (n sz : Nat)
  | idx (d : Nat) (x i : Operand) (n sz : Nat) (agg : Bool)
  | ids (d : Nat) (x i : Operand)
  | nc (d : Nat) (x : Operand)
  | len (d : Nat) (x : Operand)
  | lens (d : Nat) (x : Operand)
  | pick (d : Nat) (c x y : Operand)
  | mki (d t : Nat) (x : Operand)
  | bld (d : Nat) (tmpl : List Operand)
  | mkf (d : Nat) (fn : Fn) (first captured : List Operand)
  | sl (d : Nat) (x : Operand) (lo hi mx : Option Operand) (sz : Nat)
  | sls (d : Nat) (x : Operand) (lo hi : Option Operand)
  | sla (d : Nat) (x : Operand) (lo hi mx : Option Operand) (n sz : Nat)
  | ld (d : Nat) (x : Operand)
  | lda (d : Nat) (x : Operand) (n : Nat)
  | b2s (d : Nat) (x : Operand)
  | st (x v : Operand)
  | sta (x v : Operand) (n : Nat)
  | box (d t : Nat) (x : Operand)
  | call (d : Option Nat) (f : Nat) (args : List Operand)
  | raw (d : Option Nat) (op : Op) (t : Nat)
  | bad

/-! ### pure values -/
def intv (op : BinOp) (k : IntKind) (a b : Int) : Option Value :=
  match op with
  | .add => some (.int k (k.wrap (a + b)))
  | .sub => some (.int k (k.wrap (a - b)))
  | .mul => some (.int k (k.wrap (a * b)))
  | .quo => if b = 0 then none else some (.int k (k.wrap (a.tdiv b)))
  | .rem => if b = 0 then none else some (.int k (a.tmod b))
  | .and => some (.int k (k.wrap (BitVec.ofInt k.bits a &&& BitVec.ofInt k.bits b).toNat))
  | .or => some (.int k (k.wrap (BitVec.ofInt k.bits a ||| BitVec.ofInt k.bits b).toNat))
  | .xor => some (.int k (k.wrap (BitVec.ofInt k.bits a ^^^ BitVec.ofInt k.bits b).toNat))
  | .andNot => some (.int k (k.wrap (BitVec.ofInt k.bits a &&& ~~~(BitVec.ofInt k.bits b)).toNat))
  | .eql => some (.bool (a == b))
  | .neq => some (.bool (a != b))
  | .lss => some (.bool (decide (a < b)))
  | .leq => some (.bool (decide (a ≤ b)))
  | .gtr => some (.bool (decide (b < a)))
  | .geq => some (.bool (decide (b ≤ a)))
  | _ => none

def strv (op : BinOp) (a b : ByteArray) : Option Value :=
  match op with
  | .add => if ((a.size + b.size : Nat) : Int) > IntKind.i64.max then none else some (.string (a ++ b))
  | .eql => some (.bool (a.toList == b.toList))
  | .neq => some (.bool (!(a.toList == b.toList)))
  | _ => none

def binv (op : BinOp) : Value → Value → Option Value
  | .int k a, .int k' b =>
    match op with
    | .shl => if b < 0 then none else some (.int k (k.wrap (a * 2 ^ min b.toNat k.bits)))
    | .shr => if b < 0 then none else some (.int k (a.fdiv (2 ^ min b.toNat k.bits)))
    | op => if k = k' then intv op k a b else none
  | .string a, .string b => strv op a b
  | _, _ => none

theorem binv_run {P : Program} {op : BinOp} {T : TypeId} {x y : Operand} {u v r : Value} (h : binv op u v = some r) (w : World) :
    (do Go.eqGuard op T x y u v; Go.binOp op T u v : Sem Value).run P w = .ok r w := by
  have hg : Go.eqGuard op T x y u v = pure () := by
    unfold Go.eqGuard
    cases u <;> cases v <;> simp [binv] at h <;> cases op <;> simp <;> rfl
  rw [hg]
  show (Go.binOp op T u v).run P w = _
  cases u <;> cases v <;> simp only [binv] at h <;> try (simp at h; done)
  · rename_i k a k' b
    cases op <;> simp only [] at h
    case shl =>
      simp only [Go.binOp, Op.shift]
      split at h
      · simp at h
      · rename_i hb; rw [if_neg hb]; simp at h; subst h; rfl
    case shr =>
      simp only [Go.binOp, Op.shift]
      split at h
      · simp at h
      · rename_i hb; rw [if_neg hb]; simp at h; subst h; rfl
    all_goals
      split at h
      · rename_i hk
        subst hk
        simp only [intv] at h
        simp only [Go.binOp, ne_eq, not_true_eq_false, if_false]
        first
          | (injection h with h; subst h; rfl)
          | (simp at h; done)
          | (split at h
             · simp at h
             · rename_i hb; simp at h; subst h; simp only [Op.intDiv, if_neg hb]; rfl)
      · simp at h
  · rename_i a b
    simp only [Go.binOp]
    cases op <;> simp only [strv] at h <;> simp only [Op.stringOp]
    case add =>
      split at h
      · simp at h
      · rename_i hb; rw [if_neg hb]; simp at h; subst h; rfl
    all_goals first | (simp at h; done) | (simp at h; subst h; rfl) | (injection h with h; subst h; rfl)

def unv (op : UnOp) (u : Value) : Option Value :=
  match op, u with
  | .neg, .int k n => some (.int k (k.wrap (0 - n)))
  | .xor, .int k n => some (.int k (k.wrap (BitVec.ofInt k.bits (if k.signed then -1 else k.max) ^^^ BitVec.ofInt k.bits n).toNat))
  | .not, .bool b => some (.bool (!b))
  | _, _ => none

theorem unv_run {P : Program} {op : UnOp} {u r : Value} (h : unv op u = some r) (w : World) : (Op.unary op u).run P w = .ok r w := by
  unfold unv at h
  split at h
  · injection h with h; subst h; rfl
  · injection h with h; subst h; rfl
  · injection h with h; subst h; rfl
  · simp at h

def cviv (k : IntKind) : Value → Option Value
  | .int _ n => some (.int k (k.wrap n))
  | _ => none

def extv (i : Nat) : Value → Option Value
  | .tuple vs => vs[i]?
  | _ => none

def fldv (off sz : Nat) (agg : Bool) : Value → Option Value
  | .agg cs => if agg then some (.agg (cs.extract off (off + sz))) else cs[off]?
  | _ => none

def fav (off : Nat) : Value → Option Value
  | .pointer (some a) => some (.pointer (some (a.add off)))
  | _ => none

def idxv (sz : Nat) : Value → Value → Option Value
  | .slice (some a) n _, .int _ j => if 0 ≤ j ∧ j < n then some (.pointer (some (a.add (j.toNat * sz)))) else none
  | _, _ => none

def idav (n sz : Nat) : Value → Value → Option Value
  | .pointer (some a), .int _ j => if 0 ≤ j ∧ j < n then some (.pointer (some (a.add (j.toNat * sz)))) else none
  | _, _ => none

def indv (n sz : Nat) (agg : Bool) : Value → Value → Option Value
  | .agg cs, .int _ j => if 0 ≤ j ∧ j < n then fldv (j.toNat * sz) sz agg (.agg cs) else none
  | _, _ => none

def idsv : Value → Value → Option Value
  | .string s, .int _ j => if 0 ≤ j then (s[j.toNat]?).map fun b => .int .u8 b.toNat else none
  | _, _ => none

def ncv : Value → Option Value
  | .pointer (some a) => some (.pointer (some a))
  | _ => none

def lenv : Value → Option Value
  | .slice _ n _ => some (.int .i64 n)
  | _ => none

def lensv : Value → Option Value
  | .string s => some (.int .i64 s.size)
  | _ => none

def boolv : Value → Option Bool
  | .bool b => some b
  | _ => none

/-- a bound: none: what stands there anyway -/
def bndv (e : Env) (x : Option Operand) (dflt top : Nat) : Option Nat :=
  match x with
  | none => some dflt
  | some o => match opd e o with
    | some (.int _ i) => if 0 ≤ i ∧ i ≤ top then some i.toNat else none
    | _ => none

def cutv (sz l h m : Nat) (a : Option Addr) : Value := .slice (if m = l then a else a.map (·.add (l * sz))) (h - l) (m - l)

/-! ### the meaning -/
def B {α : Type} (o : Option α) (f : α → Prop) : Prop :=
  match o with
  | some v => f v
  | none => False

theorem B_some {α : Type} (v : α) (f : α → Prop) : B (some v) f = f v := rfl
theorem B_none {α : Type} (f : α → Prop) : B none f = False := rfl
theorem B_out {α : Type} {o : Option α} {f : α → Prop} (h : B o f) : ∃ v, o = some v ∧ f v := by
  cases o with
  | none => exact h.elim
  | some v => exact ⟨v, rfl, h⟩

def bnd (e : Env) (d : Option Nat) (v : Value) : Env :=
  match d with
  | some t => (t, v) :: e
  | none => e

def w8 (x : UInt8) : Value := .int .u8 x.toNat
def ws (l : List UInt8) : Value := .string ⟨l.toArray⟩

/-- the bytes that a slice holds -/
def bytesAt (w : World) : Value → List UInt8 → Prop
  | .slice none _ _, l => l = []
  | .slice (some a) n _, l => l.length = n ∧ ∀ i (h : i < l.length), w.cell? (a.add i) = some (w8 l[i])
  | _, _ => False

/-- May stand in one cell. -/
def plain : Value → Bool
  | .agg _ | .tuple _ => false
  | _ => true

def putCells (w : World) (a : Addr) : List Value → Nat → World
  | [], _ => w
  | v :: r, i => putCells (w.setCell (a.add i) v) a r (i + 1)

def opds (e : Env) : List Operand → Option (List Value)
  | [] => some []
  | x :: r => match opd e x, opds e r with
    | some v, some vs => some (v :: vs)
    | _, _ => none

/-- the semantics of what has no compact form: the model's own -/
def raws (P : Program) (d : Option Nat) (op : Op) (t : Nat) (K : Env → World → Prop) (e : Env) (w : World) : Prop :=
  (opds e op.operands.toList).isSome = true ∧
    match (execOp (evd e) ⟨d, op, t, "", #[], none⟩).run P w with
    | .ok (.value v) w' => K (bnd e d v) w'
    | .ok .skip w' => K (bnd e d undef) w'
    | .ok (.enter f args) w' => Calls P f args w' fun en w'' => ∃ v, en = .returned v ∧ K (bnd e d v) w''
    | _ => False

def LdaW (w : World) (a : Addr) (n : Nat) (f : Value → Prop) : Prop := ∃ cs : List Value, cs.length = n ∧ (∀ i, i < n → w.cell? (a.add i) = cs[i]?) ∧ f (.agg cs.toArray)
def B2sW (w : World) (u : Value) (f : Value → Prop) : Prop := ∃ l, bytesAt w u l ∧ f (ws l)
def StoreW (w : World) (a : Addr) (v : Value) (f : World → Prop) : Prop := plain v = true ∧ (w.cell? a).isSome = true ∧ w.frozen? a = false ∧ f (w.setCell a v)
def StoresW (w : World) (a : Addr) (v : Value) (n : Nat) (f : World → Prop) : Prop :=
  v.cells.size = n ∧ v.cells.toList.all plain = true ∧ (∀ i, i < n → (w.cell? (a.add i)).isSome = true ∧ w.frozen? (a.add i) = false) ∧ f (putCells w a v.cells.toList 0)
def BoxW (w : World) (t : Nat) (v : Value) (f : Value → World → Prop) : Prop := f (.pointer (some ⟨w.heap.size, 0, none⟩)) { w with heap := w.heap.push (.cells v.cells t) }
def AllW (l : List Value) (p : Prop) : Prop := l.all plain = true ∧ p
def CallW (P : Program) (f : Nat) (vs : List Value) (w : World) (k : Value → World → Prop) : Prop := Calls P f vs.toArray w fun en w' => ∃ v, en = .returned v ∧ k v w'
def CondW (t : Bool) (p q : Prop) : Prop := (t = true → p) ∧ (t = false → q)

def sx (P : Program) : XOp → (Env → World → Prop) → Env → World → Prop
  | .mv d x, K, e, w => B (opd e x) fun v => K ((d, v) :: e) w
  | .bin op d x y, K, e, w => B (opd e x) fun u => B (opd e y) fun v => B (binv op u v) fun r => K ((d, r) :: e) w
  | .eqb neg d x y, K, e, w => B (opd e x) fun u => B (boolv u) fun p => B (opd e y) fun v => B (boolv v) fun q => K ((d, .bool (if neg then !(p == q) else p == q)) :: e) w
  | .un op d x, K, e, w => B (opd e x) fun u => B (unv op u) fun r => K ((d, r) :: e) w
  | .cvi k d x, K, e, w => B (opd e x) fun u => B (cviv k u) fun r => K ((d, r) :: e) w
  | .ext d x i, K, e, w => B (opd e x) fun u => B (extv i u) fun r => K ((d, r) :: e) w
  | .fld d x off sz agg, K, e, w => B (opd e x) fun u => B (fldv off sz agg u) fun r => K ((d, r) :: e) w
  | .fa d x off, K, e, w => B (opd e x) fun u => B (fav off u) fun r => K ((d, r) :: e) w
  | .ix d x i sz, K, e, w => B (opd e x) fun u => B (opd e i) fun v => B (idxv sz u v) fun r => K ((d, r) :: e) w
  | .ixa d x i n sz, K, e, w => B (opd e x) fun u => B (opd e i) fun v => B (idav n sz u v) fun r => K ((d, r) :: e) w
  | .idx d x i n sz agg, K, e, w => B (opd e x) fun u => B (opd e i) fun v => B (indv n sz agg u v) fun r => K ((d, r) :: e) w
  | .ids d x i, K, e, w => B (opd e x) fun u => B (opd e i) fun v => B (idsv u v) fun r => K ((d, r) :: e) w
  | .nc d x, K, e, w => B (opd e x) fun u => B (ncv u) fun r => K ((d, r) :: e) w
  | .len d x, K, e, w => B (opd e x) fun u => B (lenv u) fun r => K ((d, r) :: e) w
  | .lens d x, K, e, w => B (opd e x) fun u => B (lensv u) fun r => K ((d, r) :: e) w
  | .pick d c x y, K, e, w => B (opd e c) fun u => B (boolv u) fun b => B (opd e (if b then x else y)) fun v => K ((d, v) :: e) w
  | .mki d t x, K, e, w => B (opd e x) fun u => K ((d, .iface t u) :: e) w
  | .bld d tm, K, e, w => B (opds e tm) fun vs => AllW vs (K ((d, .agg vs.toArray) :: e) w)
  | .mkf d fn fs cs, K, e, w => B (opds e fs) fun us => B (opds e cs) fun vs => K ((d, .func fn us.toArray vs.toArray) :: e) w
  | .sl d x lo hi mx sz, K, e, w => B (opd e x) fun u =>
      match u with
      | .slice a n c => B (bndv e mx c c) fun m => B (bndv e hi n m) fun h => B (bndv e lo 0 h) fun l => K ((d, cutv sz l h m a) :: e) w
      | _ => False
  | .sls d x lo hi, K, e, w => B (opd e x) fun u =>
      match u with
      | .string s => B (bndv e hi s.size s.size) fun h => B (bndv e lo 0 h) fun l => K ((d, .string (s.extract l h)) :: e) w
      | _ => False
  | .sla d x lo hi mx n sz, K, e, w => B (opd e x) fun u =>
      match u with
      | .pointer (some a) => B (bndv e mx n n) fun m => B (bndv e hi n m) fun h => B (bndv e lo 0 h) fun l => K ((d, .slice (some (if m = l then a else a.add (l * sz))) (h - l) (m - l)) :: e) w
      | _ => False
  | .ld d x, K, e, w => B (opd e x) fun u => match u with
      | .pointer (some a) => B (w.cell? a) fun v => K ((d, v) :: e) w
      | _ => False
  | .lda d x n, K, e, w => B (opd e x) fun u => match u with
      | .pointer (some a) => LdaW w a n fun v => K ((d, v) :: e) w
      | _ => False
  | .b2s d x, K, e, w => B (opd e x) fun u => B2sW w u fun v => K ((d, v) :: e) w
  | .st x v, K, e, w => B (opd e x) fun u => B (opd e v) fun v => match u with
      | .pointer (some a) => StoreW w a v fun w => K e w
      | _ => False
  | .sta x v n, K, e, w => B (opd e x) fun u => B (opd e v) fun v => match u with
      | .pointer (some a) => StoresW w a v n fun w => K e w
      | _ => False
  | .box d t x, K, e, w => B (opd e x) fun v => BoxW w t v fun r w => K ((d, r) :: e) w
  | .call d f args, K, e, w => B (opds e args) fun vs => CallW P f vs w fun v w' => K (bnd e d v) w'
  | .raw d op t, K, e, w => raws P d op t K e w
  | .bad, _, _, _ => False
end Go.Lk
