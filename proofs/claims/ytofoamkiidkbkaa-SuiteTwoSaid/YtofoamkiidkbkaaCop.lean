/- The reading of the model's operations as compact ones, and that it is sound. No statement of the seat is proved in this text. -/
import Derived.Test.YtofoamkiidkbkaaOps
set_option linter.unusedSimpArgs false
set_option linter.unusedVariables false
set_option linter.unusedSectionVars false
set_option linter.unnecessarySimpa false
namespace Go.Lk

def aggT (P : Program) (t : Nat) : Option Bool :=
  match P.underlying t with
  | some (.struct _) | some (.array _ _) => some true
  | some _ => some false
  | none => none

def sizeT (P : Program) (t : Nat) : Option Nat := (P.info? t).map (·.size)

def callT (P : Program) (f : Nat) : Bool :=
  match P.funcs[f]? with
  | some fn => fn.name != "runtime.NumGoroutine" && fn.body.isSome
  | none => false

def copB (P : Program) (d : Nat) (op : BinOp) (T : Nat) (x y : Operand) : Option XOp :=
  match P.underlying T with
  | some (.int _) => some (.bin op d x y)
  | some .string => some (.bin op d x y)
  | some .bool => match op with
    | .eql => some (.eqb false d x y)
    | .neq => some (.eqb true d x y)
    | _ => none
  | _ => none

/-- where the parts of a struct or an array go, each of one cell -/
def offs (P : Program) (T : Nat) : Option (Nat → Option Nat) :=
  match P.underlying T with
  | some (.struct fs) => if fs.toList.all (fun fd => (sizeT P fd.type).isSome) then some fun i => match fs[i]? with
      | some fd => if sizeT P fd.type = some 1 then some fd.offset else none
      | none => none
    else none
  | some (.array _ t) => if sizeT P t = some 1 then some fun i => some i else none
  | _ => none

def offsL (f : Nat → Option Nat) : List (Nat × Operand) → Option (List (Nat × Operand))
  | [] => some []
  | (i, x) :: r => match f i, offsL f r with
    | some o, some l => some ((o, x) :: l)
    | _, _ => none

def copBld (P : Program) (T : Nat) (parts : Array (Nat × Operand)) : Option (List Operand) :=
  match offs P T, (P.info? T).bind (·.zero) with
  | some f, some z => match offsL f parts.toList with
    | some l =>
      let cs := z.cells.toList
      if (l.map (·.1)).Nodup ∧ (∀ p ∈ l, p.1 < cs.length) then
        some (cs.zipIdx.map fun (c, j) => match l.find? (fun p => p.1 == j) with | some p => p.2 | none => .const c)
      else none
    | none => none
  | _, _ => none

def copD (P : Program) (d : Nat) (op : Op) : Option XOp :=
  match op with
  | .move x => some (.mv d x)
  | .assign x => some (.mv d x)
  | .pick c x y => some (.pick d c x y)
  | .binOp op T x y _ => copB P d op T x y
  | .unOp op _ x => some (.un op d x)
  | .convert src dst x => match P.underlying src, P.underlying dst with
    | some (.int _), some (.int k) => some (.cvi k d x)
    | some (.slice e), some .string => match P.underlying e with
      | some (.int .u8) => some (.b2s d x)
      | _ => none
    | _, _ => none
  | .extract x i => some (.ext d x i)
  | .field T x f => match P.underlying T with
    | some (.struct fs) => match fs[f]? with
      | some fd => match aggT P fd.type, sizeT P fd.type with
        | some b, some s => some (.fld d x fd.offset s b)
        | _, _ => none
      | none => none
    | _ => none
  | .fieldAddr T x f => match P.underlying T with
    | some (.struct fs) => match fs[f]? with
      | some fd => match sizeT P fd.type with
        | some (_ + 1) => some (.fa d x fd.offset)
        | _ => none
      | none => none
    | _ => none
  | .indexAddr T x i => match P.underlying T with
    | some (.slice t) => match sizeT P t with
      | some s => some (.ix d x i s)
      | none => none
    | some (.array n t) => match sizeT P t with
      | some s => some (.ixa d x i n s)
      | none => none
    | _ => none
  | .index T x i => match P.underlying T with
    | some (.array n t) => match aggT P t, sizeT P t with
      | some b, some s => some (.idx d x i n s b)
      | _, _ => none
    | some .string => some (.ids d x i)
    | _ => none
  | .nilCheck x => some (.nc d x)
  | .makeInterface T x => match P.underlying T with
    | some (.interface _) => none
    | some _ => some (.mki d T x)
    | none => none
  | .build T parts => match copBld P T parts with
    | some tm => some (.bld d tm)
    | none => none
  | .makeFunc fn fs cs => some (.mkf d fn fs.toList cs.toList)
  | .slice T x lo hi mx => if mx.isSome && hi.isNone then none else match P.underlying T with
    | some (.slice t) => match sizeT P t with
      | some s => some (.sl d x lo hi mx s)
      | none => none
    | some .string => if mx.isSome then none else some (.sls d x lo hi)
    | some (.array n t) => match sizeT P t with
      | some s => some (.sla d x lo hi mx n s)
      | none => none
    | _ => none
  | .load T x => match aggT P T, sizeT P T with
    | some false, _ => some (.ld d x)
    | some true, some n => some (.lda d x n)
    | _, _ => none
  | .box T x => some (.box d T x)
  | .call c => match c.callee with
    | .value (.func f) => if callT P f then some (.call (some d) f c.args.toList) else none
    | .builtin .len => match c.args.toList, (c.argTypes[0]?).bind P.underlying with
      | [x], some (.slice _) => some (.len d x)
      | [x], some .string => some (.lens d x)
      | _, _ => none
    | _ => none
  | _ => none

def copN (P : Program) (op : Op) : Option XOp :=
  match op with
  | .store T x v => match aggT P T, sizeT P T with
    | some false, some 1 => some (.st x v)
    | some true, some n => some (.sta x v n)
    | _, _ => none
  | .call c => match c.callee with
    | .value (.func f) => if callT P f then some (.call none f c.args.toList) else none
    | _ => none
  | _ => none

def cop (P : Program) (n : Nat) (o : Oper) : XOp :=
  match o.dst with
  | some d => if d < n then (copD P d o.op).getD (.raw (some d) o.op o.type) else .bad
  | none => (copN P o.op).getD (.raw none o.op o.type)

theorem opds_eval {n : Nat} {a : Act} {e : Env} (h : Agr n a e) : ∀ {l : List Operand} {vs : List Value}, opds e l = some vs → l.map a.eval = vs
  | [], vs, hv => by simp [opds] at hv; simp [hv]
  | x :: r, vs, hv => by
    simp only [opds] at hv
    split at hv
    · rename_i v us hx hr
      simp at hv
      subst hv
      simp [h.opd hx, opds_eval h hr]
    · simp at hv

theorem opds_mem {e : Env} : ∀ {l : List Operand}, (opds e l).isSome = true → ∀ x ∈ l, ∃ v, opd e x = some v
  | [], _, x, hx => by cases hx
  | y :: r, h, x, hx => by
    simp only [opds] at h
    split at h
    · rename_i v us hy hr
      rcases List.mem_cons.1 hx with rfl | hx
      · exact ⟨v, hy⟩
      · exact opds_mem (by simp [hr]) x hx
    · simp at h

theorem bndv_run {P : Program} {n : Nat} {a : Act} {e : Env} (h : Agr n a e) {o : Operand} {df top r : Nat} (code : BoundsCode) (hb : bndv e (some o) df top = some r) (w : World) :
    (Instr.sliceBound (a.eval o) top code).run P w = .ok r w := by
  simp only [bndv] at hb
  split at hb
  · rename_i k i ho
    rw [h.opd ho]
    split at hb
    · rename_i hi
      simp at hb
      subst hb
      simp [Instr.sliceBound, asIntOf, hi]
    · simp at hb
  · simp at hb

theorem bounds_run {P : Program} {n : Nat} {a : Act} {e : Env} (h : Agr n a e) {lo hi mx : Option Operand} (isS : Bool) {len cap m hh l : Nat}
    (h1 : bndv e mx cap cap = some m) (h2 : bndv e hi len m = some hh) (h3 : bndv e lo 0 hh = some l) (hmx : mx = none ∨ hi.isSome = true) (w : World) :
    (Instr.sliceBounds isS len cap (lo.map a.eval) (hi.map a.eval) (mx.map a.eval)).run P w = .ok (l, hh, m) w := by
  unfold Instr.sliceBounds
  cases mx with
  | none =>
    simp [bndv] at h1
    subst h1
    cases hi with
    | none =>
      simp [bndv] at h2
      subst h2
      cases lo with
      | none => simp [bndv] at h3; subst h3; simp
      | some lo => simp [bndv_run h _ h3]
    | some hi =>
      cases lo with
      | none => simp [bndv] at h3; subst h3; simp [bndv_run h _ h2]
      | some lo => simp [bndv_run h _ h2, bndv_run h _ h3]
  | some mx =>
    cases hi with
    | none => rcases hmx with hh | hh <;> simp at hh
    | some hi =>
      cases lo with
      | none => simp [bndv] at h3; subst h3; simp [bndv_run h _ h1, bndv_run h _ h2]
      | some lo => simp [bndv_run h _ h1, bndv_run h _ h2, bndv_run h _ h3]
end Go.Lk
